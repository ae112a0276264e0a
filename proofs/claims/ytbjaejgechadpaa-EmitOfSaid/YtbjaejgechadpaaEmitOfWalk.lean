/-
  The walk of the law EmitOf.
-/
import Derived.Test.YtbjaejgechadpaaEmW
import Derived.Test.YtbjaejgechadpaaEofA
import Derived.Test.YtbjaejgechadpaaR26B
import Derived.Test.YtbjaejgechadpaaNmA
namespace Go.Proofs.Ytbjaejgechadpaa.emitOf
open Go.RowKit Vf Fo
attribute [local go_sem ↓] Go.wp_at_zero Go.wp_at_succ
set_option maxRecDepth 100000 in
set_option maxHeartbeats 8000000 in
theorem walk0 (f : Fm) (vw va vc vk vi vo : Value) (w : World) (h : FmAt w w.heap.size f vw va vc vk vi vo) :
    Calls Try.prog 12 #[fmV vw va vc vk vi vo] w fun e w' => e = .returned (.bool true) ∧ Below w.heap.size w w' := by
  obtain ⟨Aw, cw, rfl, _, _, _⟩ := id h.wires
  obtain ⟨Aa, ca, rfl, _, _, _⟩ := id h.acts
  obtain ⟨Acc, cc, rfl, _, _, _⟩ := id h.cells
  obtain ⟨Akk, ck, rfl, _, _, _⟩ := id h.keeps
  obtain ⟨Ai, ci, rfl, _, _, _⟩ := id h.ins
  obtain ⟨Ao, co, rfl, _, _, _⟩ := id h.outs
  have b1 : Below w.heap.size w (w.alloc (.cells #[.slice Aw f.wires.length cw, .slice Aa f.acts.length ca, .slice Acc f.cells.length cc, .slice Akk f.keeps.length ck, .slice Ai f.ins.length ci, .slice Ao f.outs.length co] 48)) := bE
  have rF := Row.new w #[.slice Aw f.wires.length cw, .slice Aa f.acts.length ca, .slice Acc f.cells.length cc, .slice Akk f.keeps.length ck, .slice Ai f.ins.length ci, .slice Ao f.outs.length co] 48
  have HFM := Lib.hid (fun W (hW : Below w.heap.size w W) => (h.below hW).more hW.size)
  clear h
  go_enter Try.func12, Try.ntmps12
  go_upto_region 1 with (fail)
  generalize w.alloc (.cells #[.slice Aw f.wires.length cw, .slice Aa f.acts.length ca, .slice Acc f.cells.length cc, .slice Akk f.keeps.length ck, .slice Ai f.ins.length ci, .slice Ao f.outs.length co] 48) = w1 at *
  have hs1 := b1.size
  have HF6 : Hid (∀ W, Below w1.heap.size w1 W → W.cell? ⟨w.heap.size, 0, none⟩ = some (.slice Aw f.wires.length cw) ∧ W.cell? ⟨w.heap.size, 1, none⟩ = some (.slice Aa f.acts.length ca) ∧ W.cell? ⟨w.heap.size, 2, none⟩ = some (.slice Acc f.cells.length cc) ∧ W.cell? ⟨w.heap.size, 3, none⟩ = some (.slice Akk f.keeps.length ck) ∧ W.cell? ⟨w.heap.size, 4, none⟩ = some (.slice Ai f.ins.length ci) ∧ W.cell? ⟨w.heap.size, 5, none⟩ = some (.slice Ao f.outs.length co)) := fun W hW => (rF.below hW rF.lt).six'
  clear rF
  go_wp2_with fail
  refine (awake30_any _).mono ?_
  rintro e w2 ⟨rfl, hb2⟩
  have b2 := b1.trans (hb2.mono hs1)
  obtain ⟨f0, f1, f2, f3, f4, f5⟩ := HF6.out _ hb2
  have HFW := Lib.hid (few30_any (HFM.out _ b2) (Nat.le_refl _))
  go_wp2_with fail
  (with_reducible refine HFW.out.mono ?_)
  rintro e w3 ⟨⟨b, rfl, HB⟩, hb3⟩
  have b3 := b2.trans (hb3.mono b2.size)
  have hq3 := hb2.trans (hb3.mono hb2.size)
  clear f0 f1 f2 f3 f4 f5 HFW hb2 hb3 b1 b2
  obtain ⟨f0, f1, f2, f3, f4, f5⟩ := HF6.out _ hq3
  cases b
  · go_wp2_with fail
    go_ret
    exact ⟨rfl, b3⟩
  obtain ⟨⟨_, _, hla, hlc, _, hli, hlo⟩, _⟩ := HB.out rfl
  have hs3 := b3.size
  have hs3' := hq3.size
  clear HB
  have HO := Lib.hid (emit_any f _ _ _ _ _ _ w3 (HFM.out _ b3) (by omega))
  go_wp2_with fail
  (with_reducible refine HO.out.mono ?_)
  rintro e w4 ⟨hout, hb4⟩
  have b4 := b3.trans (hb4.mono hs3)
  have hq4 := hq3.trans (hb4.mono hs3')
  have hs4 := b4.size
  have hs4' := hq4.size
  clear f0 f1 f2 f3 f4 f5 HO hb4 b3 hq3 hs3 hs3'
  unfold EmOut pg0V at hout
  rcases hout with ⟨hno, rfl⟩ | ⟨hord, code, hem, ⟨hbig, rfl⟩ | ⟨hle, vi', vo', vc', vd', rfl, hpg⟩⟩
  · have b5 : Below w4.heap.size w4 (w4.alloc (.cells #[.slice none 0 0, .slice none 0 0, .int .i64 0, .slice none 0 0, .slice none 0 0] 26)) := bE
    have rP := Row.new w4 #[.slice none 0 0, .slice none 0 0, .int .i64 0, .slice none 0 0, .slice none 0 0] 26
    have HNO := Lib.hid hno
    clear hno
    have hq5 := hq4.trans (b5.mono hs4')
    have b6 := b4.trans (b5.mono hs4)
    obtain ⟨f0, f1, f2, f3, f4, f5⟩ := HF6.out _ hq5
    have HOR := Lib.hid (rordered_any f _ _ _ _ _ _ _ (HFM.out _ b6) (by omega) (by omega))
    rw [cB_false HNO.out] at HOR
    go_upto_region 6 with (fail)
    generalize w4.alloc (.cells #[.slice none 0 0, .slice none 0 0, .int .i64 0, .slice none 0 0, .slice none 0 0] 26) = w5 at *
    have hs6 := b6.size
    go_wp2_with fail
    (with_reducible refine HOR.out.mono ?_)
    rintro e w7 ⟨rfl, hb7⟩
    have b7 := b6.trans (hb7.mono hs6)
    have hs7 := b7.size
    obtain ⟨p0, p1, p2, p3, p4⟩ := (rP.below hb7 rP.lt).five'
    clear f0 f1 f2 f3 f4 f5
    go_wp2_with fail
    refine (same0_any _).mono ?_
    rintro e w8 ⟨rfl, hb8⟩
    have b8 := b7.trans (hb8.mono hs7)
    go_wp2_with fail
    go_ret
    exact ⟨by simp, b8⟩
  · have b5 : Below w4.heap.size w4 (w4.alloc (.cells #[.slice none 0 0, .slice none 0 0, .int .i64 0, .slice none 0 0, .slice none 0 0] 26)) := bE
    have rP := Row.new w4 #[.slice none 0 0, .slice none 0 0, .int .i64 0, .slice none 0 0, .slice none 0 0] 26
    have HOD := Lib.hid hord
    have hmo := emits_most hem
    have hbm : 2048 < mostF f := by omega
    clear hord hem hbig hmo
    have hq5 := hq4.trans (b5.mono hs4')
    have b6 := b4.trans (b5.mono hs4)
    obtain ⟨f0, f1, f2, f3, f4, f5⟩ := HF6.out _ hq5
    have HOR := Lib.hid (rordered_any f _ _ _ _ _ _ _ (HFM.out _ b6) (by omega) (by omega))
    rw [cB_true HOD.out] at HOR
    go_upto_region 6 with (fail)
    generalize w4.alloc (.cells #[.slice none 0 0, .slice none 0 0, .int .i64 0, .slice none 0 0, .slice none 0 0] 26) = w5 at *
    have hs6 := b6.size
    go_wp2_with fail
    (with_reducible refine HOR.out.mono ?_)
    rintro e w7 ⟨rfl, hb7⟩
    have b7 := b6.trans (hb7.mono hs6)
    have hs7 := b7.size
    have rP7 := rP.below hb7 rP.lt
    clear f0 f1 f2 f3 f4 f5
    obtain ⟨f0, f1, f2, f3, f4, f5⟩ := HF6.out _ (hq5.trans (hb7.mono hq5.size))
    have HM := Lib.hid (rmost_any (HFM.out _ b7) (Nat.le_refl _) HOD.out.1)
    go_wp2_with fail
    (with_reducible refine HM.out.mono ?_)
    rintro e w8 ⟨rfl, hb8⟩
    have b8 := b7.trans (hb8.mono hs7)
    have hs8 := b8.size
    generalize mostF f = mo at *
    have em : decide (2048 < (mo : Int)) = true := decide_eq_true (by omega)
    obtain ⟨p0, p1, p2, p3, p4⟩ := (rP7.below hb8 rP7.lt).five'
    clear f0 f1 f2 f3 f4 f5
    go_wp2_with fail
    refine (same0_any _).mono ?_
    rintro e w9 ⟨rfl, hb9⟩
    have b9 := b8.trans (hb9.mono hs8)
    go_wp2_with fail
    go_ret
    exact ⟨by simp, b9⟩
  have HRO := Lib.hid (emit_right hord hem hle)
  have HOD := Lib.hid hord
  have hmo := emits_most hem
  obtain ⟨A0, c0, hv0, _, _, _⟩ := id hpg.ins
  obtain ⟨A1, c1, hv1, _, _, _⟩ := id hpg.outs
  obtain ⟨A3, c3, hv3, _, _, _⟩ := id hpg.cells
  obtain ⟨A4, c4, hv4, _, _, _⟩ := id hpg.code
  have e0 : (progOf f code).ins.length = f.ins.length := List.length_map ..
  have e1 : (progOf f code).outs.length = f.outs.length := List.length_map ..
  rw [e0] at hv0
  rw [e1] at hv1
  change vc' = .slice A3 f.cells.length c3 at hv3
  change vd' = .slice A4 code.length c4 at hv4
  subst hv0; subst hv1; subst hv3; subst hv4
  have HPG := Lib.hid (fun W (hW : Below w4.heap.size w4 W) => hpg.next hW)
  have b5 : Below w4.heap.size w4 (w4.alloc (.cells #[.slice A0 f.ins.length c0, .slice A1 f.outs.length c1, .int .i64 (progOf f code).regs, .slice A3 f.cells.length c3, .slice A4 code.length c4] 26)) := bE
  have rP := Row.new w4 #[.slice A0 f.ins.length c0, .slice A1 f.outs.length c1, .int .i64 (progOf f code).regs, .slice A3 f.cells.length c3, .slice A4 code.length c4] 26
  clear hord hem hle hpg e0 e1
  have hq5 := hq4.trans (b5.mono hs4')
  have b6 := b4.trans (b5.mono hs4)
  obtain ⟨f0, f1, f2, f3, f4, f5⟩ := HF6.out _ hq5
  have HOR := Lib.hid (rordered_any f _ _ _ _ _ _ _ (HFM.out _ b6) (by omega) (by omega))
  rw [cB_true HOD.out] at HOR
  go_upto_region 6 with (fail)
  generalize w4.alloc (.cells #[.slice A0 f.ins.length c0, .slice A1 f.outs.length c1, .int .i64 (progOf f code).regs, .slice A3 f.cells.length c3, .slice A4 code.length c4] 26) = w5 at *
  have hs6 := b6.size
  have hs5 := b5.size
  have HSX : Hid (∀ W, Below w5.heap.size w5 W → W.cell? ⟨w.heap.size, 0, none⟩ = some (.slice Aw f.wires.length cw) ∧ W.cell? ⟨w.heap.size, 1, none⟩ = some (.slice Aa f.acts.length ca) ∧ W.cell? ⟨w.heap.size, 2, none⟩ = some (.slice Acc f.cells.length cc) ∧ W.cell? ⟨w.heap.size, 3, none⟩ = some (.slice Akk f.keeps.length ck) ∧ W.cell? ⟨w.heap.size, 4, none⟩ = some (.slice Ai f.ins.length ci) ∧ W.cell? ⟨w.heap.size, 5, none⟩ = some (.slice Ao f.outs.length co) ∧ W.cell? ⟨w4.heap.size, 0, none⟩ = some (.slice A0 f.ins.length c0) ∧ W.cell? ⟨w4.heap.size, 1, none⟩ = some (.slice A1 f.outs.length c1) ∧ W.cell? ⟨w4.heap.size, 2, none⟩ = some (.int .i64 (progOf f code).regs) ∧ W.cell? ⟨w4.heap.size, 3, none⟩ = some (.slice A3 f.cells.length c3) ∧ W.cell? ⟨w4.heap.size, 4, none⟩ = some (.slice A4 code.length c4)) := fun W hW => by
    obtain ⟨g0, g1, g2, g3, g4, g5⟩ := HF6.out _ (hq5.trans (hW.mono hq5.size))
    obtain ⟨k0, k1, k2, k3, k4⟩ := (rP.below hW rP.lt).five'
    exact ⟨g0, g1, g2, g3, g4, g5, k0, k1, k2, k3, k4⟩
  have HFM5 := Lib.hid (fun W (hW : Below w5.heap.size w5 W) => HFM.out W (b6.trans (hW.mono hs6)))
  have HPG5 := Lib.hid (fun W (hW : Below w5.heap.size w5 W) => HPG.out W (b5.trans (hW.mono hs5)))
  have HBB := Lib.hid (fun W (hW : Below w5.heap.size w5 W) => b6.trans (hW.mono hs6))
  clear HF6 HFM HPG b4 b5 b6 hq4 hq5 hs4 hs4' hs5 hs6 rP
  go_wp2_with fail
  (with_reducible refine HOR.out.mono ?_)
  rintro e w7 ⟨rfl, hb7⟩
  have hs7 := hb7.size
  clear f0 f1 f2 f3 f4 f5 HOR
  obtain ⟨f0, f1, f2, f3, f4, f5, p0, p1, p2, p3, p4⟩ := HSX.out _ hb7
  have HM := Lib.hid (rmost_any (HFM5.out _ hb7) (Nat.le_refl _) HOD.out.1)
  go_wp2_with fail
  (with_reducible refine HM.out.mono ?_)
  rintro e w8 ⟨rfl, hb8⟩
  have h8 := hb7.trans (hb8.mono hs7)
  have hs8 := h8.size
  clear f0 f1 f2 f3 f4 f5 p0 p1 p2 p3 p4 HM hb8 hb7 hs7
  obtain ⟨f0, f1, f2, f3, f4, f5, p0, p1, p2, p3, p4⟩ := HSX.out _ h8
  generalize mostF f = mo at *
  have em : decide ((mo : Int) < (code.length : Int)) = false := decide_eq_false (by omega)
  have HVR : Hid (Calls Try.prog 15 #[.agg #[.slice A0 f.ins.length c0, .slice A1 f.outs.length c1, .int .i64 (progOf f code).regs, .slice A3 f.cells.length c3, .slice A4 code.length c4]] w8 fun e w' => e = .returned (.bool true) ∧ Below w8.heap.size w8 w') := by
    have := vright_any (progOf f code) _ _ _ _ w8 (HPG5.out _ h8)
    rw [cB_true HRO.out] at this
    exact this
  go_wp2_with fail
  (with_reducible refine HVR.out.mono ?_)
  rintro e w9 ⟨rfl, hb9⟩
  have h9 := h8.trans (hb9.mono hs8)
  have hs9 := h9.size
  clear f0 f1 f2 f3 f4 f5 p0 p1 p2 p3 p4 HVR hb9 hs8
  obtain ⟨f0, f1, f2, f3, f4, f5, p0, p1, p2, p3, p4⟩ := HSX.out _ h9
  have HCE := Lib.hid (rcells_any f.cells _ _ _ w9 (HPG5.out _ h9).cells (HFM5.out _ h9).cells)
  go_wp2_with fail
  (with_reducible refine HCE.out.mono ?_)
  rintro e w10 ⟨rfl, n10, rfl⟩
  have h10 : Below w5.heap.size w5 (w9.drewN n10) := below_drewN' h9 _
  clear f0 f1 f2 f3 f4 f5 p0 p1 p2 p3 p4 HCE
  generalize w9.drewN n10 = w10 at *
  have hs10 := h10.size
  have HW1 : Hid (∀ n ∈ f.ins, isW f n) := fun n hn => (HOD.out.1.2.1.1 n hn).1
  have HW2 : Hid (∀ n ∈ f.outs, isW f n) := fun n hn => (HOD.out.1.2.2.1.1 n hn).1
  have HT1 := Lib.hid (fun W (hW : Below w5.heap.size w5 W) => rtypes24_any (HFM5.out W hW) (Nat.le_refl _) f.ins _ (HFM5.out W hW).ins (by omega) HW1.out)
  have HT2 := Lib.hid (fun W (hW : Below w5.heap.size w5 W) => rtypes24_any (HFM5.out W hW) (Nat.le_refl _) f.outs _ (HFM5.out W hW).outs (by omega) HW2.out)
  have HI1 : Hid (∀ W v W0, Below w5.heap.size w5 W → SlV W0 W0.heap.size 1 isInt v (f.ins.map (tyOf f)) → W0 = W → Calls Try.prog 20 #[.slice A0 f.ins.length c0, v] W fun e w' => e = .returned (.bool true) ∧ ∃ n, w' = W.drewN n) := fun W v W0 hW hv he => by
    subst he
    have := fints_any (f.ins.map (tyOf f)) (f.ins.map (tyOf f)) _ v _ W0 (HPG5.out _ hW).ins hv
    rwa [cB_true rfl] at this
  have HI2 : Hid (∀ W v W0, Below w5.heap.size w5 W → SlV W0 W0.heap.size 1 isInt v (f.outs.map (tyOf f)) → W0 = W → Calls Try.prog 20 #[.slice A1 f.outs.length c1, v] W fun e w' => e = .returned (.bool true) ∧ ∃ n, w' = W.drewN n) := fun W v W0 hW hv he => by
    subst he
    have := fints_any (f.outs.map (tyOf f)) (f.outs.map (tyOf f)) _ v _ W0 (HPG5.out _ hW).outs hv
    rwa [cB_true rfl] at this
  clear HFM5 HPG5 HOD HRO h8 h9 hs9
  go_upto_region 13 with (fail)
  refine wp_region_held_drew (S := fun W => W.cell? ⟨w.heap.size, 0, none⟩ = some (.slice Aw f.wires.length cw) ∧ W.cell? ⟨w.heap.size, 1, none⟩ = some (.slice Aa f.acts.length ca) ∧ W.cell? ⟨w.heap.size, 2, none⟩ = some (.slice Acc f.cells.length cc) ∧ W.cell? ⟨w.heap.size, 3, none⟩ = some (.slice Akk f.keeps.length ck) ∧ W.cell? ⟨w.heap.size, 4, none⟩ = some (.slice Ai f.ins.length ci) ∧ W.cell? ⟨w.heap.size, 5, none⟩ = some (.slice Ao f.outs.length co) ∧ W.cell? ⟨w4.heap.size, 0, none⟩ = some (.slice A0 f.ins.length c0) ∧ W.cell? ⟨w4.heap.size, 1, none⟩ = some (.slice A1 f.outs.length c1) ∧ W.cell? ⟨w4.heap.size, 2, none⟩ = some (.int .i64 (progOf f code).regs) ∧ W.cell? ⟨w4.heap.size, 3, none⟩ = some (.slice A3 f.cells.length c3) ∧ W.cell? ⟨w4.heap.size, 4, none⟩ = some (.slice A4 code.length c4)) (by kernel_rfl) ?_ (fun hHeld => ?_)
  · (try dsimp only); (first | (with_reducible exact HSX.out _ bE) | assumption)
  refine tk 0 (some 59) rfl ?_
  refine tk 1 (some 60) rfl ?_
  refine tk 2 (some 61) rfl ?_
  refine tk 3 (some 62) rfl ?_
  refine tk 4 (some 63) rfl ?_
  refine rd1 5 (some 64) rfl (fun KK hKK => ?_)
  go_simp
  (go_at_call 33; first | ((with_reducible refine Calls.mono (HT1.out _ ?hbb) ?_); (case hbb => exact bE); rintro e w11 ⟨v11, rfl, hsv, hb11⟩; (have hb12 : Below w5.heap.size w5 w11 := Below.trans bE (hb11.mono lE)); (have hs12 := hb12.size)) | ((with_reducible refine Calls.mono (HT2.out _ ?hbb) ?_); (case hbb => exact bE); rintro e w11 ⟨v11, rfl, hsv, hb11⟩; (have hb12 : Below w5.heap.size w5 w11 := Below.trans bE (hb11.mono lE)); (have hs12 := hb12.size)))
  (try go_wp2_with fail)
  refine hKK.out _ _ ?_ (fun hHeld => ?_)
  · (try dsimp only); (first | (with_reducible exact HSX.out _ bE) | assumption)
  clear hKK KK
  try simp only [Act.put, List.setIfInBounds_toArray, List.set_cons_zero, List.set_cons_succ]
  refine rd1 6 (some 65) rfl (fun KK hKK => ?_)
  go_simp
  (go_at_call 20; first | ((with_reducible refine Calls.mono (HI1.out _ _ _ ?hbb hsv rfl) ?_); (case hbb => exact bE); rintro e w13 ⟨rfl, n13, rfl⟩) | ((with_reducible refine Calls.mono (HI2.out _ _ _ ?hbb hsv rfl) ?_); (case hbb => exact bE); rintro e w13 ⟨rfl, n13, rfl⟩))
  (try go_wp2_with fail)
  refine hKK.out _ _ ?_ (fun hHeld => ?_)
  · (try dsimp only); (first | (with_reducible exact HSX.out _ bE) | assumption)
  clear hKK KK
  try simp only [Act.put, List.setIfInBounds_toArray, List.set_cons_zero, List.set_cons_succ]
  refine tk 7 (some 66) rfl ?_
  refine tk 8 (some 67) rfl ?_
  refine tk 9 (some 68) rfl ?_
  refine tk 10 (some 69) rfl ?_
  refine tk 11 (some 70) rfl ?_
  refine tk 12 (some 71) rfl ?_
  refine rd1 13 (some 72) rfl (fun KK hKK => ?_)
  go_simp
  (go_at_call 33; first | ((with_reducible refine Calls.mono (HT1.out _ ?hbb) ?_); (case hbb => exact bE); rintro e w11 ⟨v11, rfl, hsv, hb11⟩; (have hb12 : Below w5.heap.size w5 w11 := Below.trans bE (hb11.mono lE)); (have hs12 := hb12.size)) | ((with_reducible refine Calls.mono (HT2.out _ ?hbb) ?_); (case hbb => exact bE); rintro e w11 ⟨v11, rfl, hsv, hb11⟩; (have hb12 : Below w5.heap.size w5 w11 := Below.trans bE (hb11.mono lE)); (have hs12 := hb12.size)))
  (try go_wp2_with fail)
  refine hKK.out _ _ ?_ (fun hHeld => ?_)
  · (try dsimp only); (first | (with_reducible exact HSX.out _ bE) | assumption)
  clear hKK KK
  try simp only [Act.put, List.setIfInBounds_toArray, List.set_cons_zero, List.set_cons_succ]
  refine rd1 14 (some 73) rfl (fun KK hKK => ?_)
  go_simp
  (go_at_call 20; first | ((with_reducible refine Calls.mono (HI1.out _ _ _ ?hbb hsv rfl) ?_); (case hbb => exact bE); rintro e w13 ⟨rfl, n13, rfl⟩) | ((with_reducible refine Calls.mono (HI2.out _ _ _ ?hbb hsv rfl) ?_); (case hbb => exact bE); rintro e w13 ⟨rfl, n13, rfl⟩))
  (try go_wp2_with fail)
  refine hKK.out _ _ ?_ (fun hHeld => ?_)
  · (try dsimp only); (first | (with_reducible exact HSX.out _ bE) | assumption)
  clear hKK KK
  try simp only [Act.put, List.setIfInBounds_toArray, List.set_cons_zero, List.set_cons_succ]
  refine tk 15 (some 74) rfl ?_
  refine tk 16 (some 2) rfl ?_
  refine wpAnyH_done (by kernel_rfl) ?_ _
  go_wp2_with fail
  go_ret
  exact ⟨by simp, HBB.out _ bE⟩
theorem walk (f : Fm) (v : Value) (w : World) (h : FmIs w f v) : Calls Try.prog 12 #[v] w fun e w' => e = .returned (.bool true) ∧ Below w.heap.size w w' := by
  obtain ⟨vw, va, vc, vk, vi, vo, rfl, ha⟩ := h
  exact walk0 f vw va vc vk vi vo w ha
end Go.Proofs.Ytbjaejgechadpaa.emitOf
