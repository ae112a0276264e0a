/-
  The document's order of acts: Ordered.
-/
import Derived.Test.YtbjaejgechadpaaR26A
import Derived.Test.YtbjaejgechadpaaOrdB
import Derived.Test.YtbjaejgechadpaaR24F
import Derived.Deep.DeepCutAuto
namespace Go.Proofs.Ytbjaejgechadpaa
open Go.RowKit Vf Fo
attribute [local go_sem ↓] Go.wp_at_zero Go.wp_at_succ
set_option maxRecDepth 100000 in
set_option maxHeartbeats 4000000 in
theorem rordered_any (f : Fm) (vw va vc vk vi vo : Value) (w : World) (h : FmAt w w.heap.size f vw va vc vk vi vo) (hla : f.acts.length ≤ 100000) (hli : f.ins.length ≤ 100000) :
    Calls Try.prog 28 #[fmV vw va vc vk vi vo] w fun e w' => e = .returned (.bool (cB (orderedOk f))) ∧ Below w.heap.size w w' := by
  have b1 : Below w.heap.size w (w.alloc (.cells #[vw, va, vc, vk, vi, vo] 48)) := bE
  have rF := Row.new w #[vw, va, vc, vk, vi, vo] 48
  have HR := Lib.hid (rright_any f vw va vc vk vi vo _ (h.next b1) hla hli)
  have HFM := Lib.hid (fun W (hW : Below w.heap.size w W) => h.below hW)
  obtain ⟨Aa, ca, rfl, la, ma, sa⟩ := h.acts
  have ma' : ca ≤ 9223372036854775807 := by unfold maxLen at ma; omega
  have HSA := Lib.hid (fun W (hW : Below w.heap.size w W) => sa.below hW)
  clear h hla hli sa
  go_enter Try.func28, Try.ntmps28
  go_upto_region 1 with (fail)
  generalize w.alloc (.cells #[vw, .slice Aa f.acts.length ca, vc, vk, vi, vo] 48) = w1 at *
  have hs1 := b1.size
  have hGl := rF.lt
  obtain ⟨f0, f1, f2, f3, f4, f5⟩ := rF.six'
  by_cases hf : formOk f
  rotate_left 1
  · have HF : Hid (cB (orderedOk f) = false) := cB_false (fun g => hf g.1)
    rw [cB_false hf] at HR
    clear hf
    go_wp2_with fail
    (with_reducible refine HR.out.mono ?_)
    rintro e w2 ⟨rfl, hb2⟩
    go_wp2_with fail
    go_ret
    exact ⟨ret_bool HF.out.symm, b1.trans (hb2.mono hs1)⟩
  have HOK := Lib.hid hf
  rw [cB_true hf] at HR
  clear hf
  go_wp2_with fail
  (with_reducible refine HR.out.mono ?_)
  rintro e w2 ⟨rfl, hb2⟩
  have b2 := b1.trans (hb2.mono hs1)
  have rF2 := rF.below hb2 hGl
  have hs2 := b2.size
  have hG2 := rF2.lt
  clear f0 f1 f2 f3 f4 f5 rF HR hb2
  obtain ⟨f0, f1, f2, f3, f4, f5⟩ := rF2.six'
  have HT := Lib.hid (rat_any (HFM.out _ b2) hs2 HOK.out.1.2.2 (fun n hn => (HOK.out.2.1.1 n hn).1))
  go_wp2_with fail
  (with_reducible refine HT.out.mono ?_)
  rintro e w3 ⟨D, ds0, rfl, hD, rD, hH, hb3⟩
  have HH := Lib.hid hH
  have HRD := Lib.hid rD
  have b3 := b2.trans (hb3.mono hs2)
  have rF3 := rF2.below hb3 hG2
  have hGD : w.heap.size ≠ D := by omega
  have hDlt := rD.lt
  have hs3 := b3.size
  have HW : Hid (∀ W, Upd (fun k => k = D) w3 W → Below w.heap.size w W ∧ Row W w.heap.size #[vw, .slice Aa f.acts.length ca, vc, vk, vi, vo] 48) := fun W hW =>
    ⟨b3.trans ((hW.below (B := w.heap.size) (fun k hk => by omega) (by omega))), hW.row rF3 hGD⟩
  clear f0 f1 f2 f3 f4 f5 HT hb3 hH rD b1 b2 rF2 hs1
  obtain ⟨f0, f1, f2, f3, f4, f5⟩ := rF3.six'
  clear rF3
  go_wp2_with fail
  go_loopw [4] (fun i wr => ∃ (k : Nat) (H : List Int) (ds : List Bool), k ≤ f.acts.length ∧ i = .int .i64 k ∧ Hid (HaveSt f H ds) ∧ Hid (ordFrom f f.ins f.acts ↔ ordFrom f H (f.acts.drop k)) ∧ Row wr D (bls ds).toArray 4 ∧ Upd (fun k => k = D) w3 wr) (fun i _ => f.acts.length - (intOf i).toNat)
  case atStart => exact ⟨0, f.ins, ds0, Nat.zero_le _, rfl, HH.out, (by rw [List.drop_zero]; exact Iff.rfl), HRD.out, Upd.refl _ _⟩
  case round =>
    clear f0 f1 f2 f3 f4 f5 HH HRD
    obtain ⟨k, H, ds, hk, rfl, HS, HI, rD, uD⟩ := hrel
    obtain ⟨bw, rFr⟩ := HW.out _ uD
    have HDL := Lib.hid HS.out.1
    by_cases hlt : k < f.acts.length
    rotate_left 1
    · obtain rfl : k = f.acts.length := by omega
      have HF : Hid (cB (orderedOk f) = true) := cB_true ⟨HOK.out, HI.out.2 (by rw [List.drop_length]; trivial)⟩
      obtain ⟨f0, f1, f2, f3, f4, f5⟩ := rFr.six'
      clear rFr
      go_wp2_with fail
      go_ret
      exact ⟨ret_bool HF.out.symm, bw⟩
    obtain ⟨f0, f1, f2, f3, f4, f5⟩ := rFr.six'
    obtain ⟨b, off, ⟨xo, xd, xa, xb, xc, xk⟩, hAa, hbb, hx, wx, d0, d1, d2, d3, d4, d5⟩ := (HSA.out _ bw).ac hlt
    subst hAa
    have HX := Lib.hid hx
    have HAC := Lib.hid (ac_ok HOK.out (List.mem_of_getElem? hx))
    have hdst := HAC.out.dst
    obtain ⟨m, rfl⟩ := Int.eq_ofNat_of_zero_le (show 0 ≤ xd from hdst.1)
    have hm : m < f.wires.length := by have := hdst.2; dsimp only at this; omega
    have hm' : (m : Int) < f.wires.length := by omega
    have hk' : (k : Int) < f.acts.length := by omega
    dsimp only at d0 d1 d2 d3 d4 d5
    have hDl4 := rD.lt
    have hbwl := bw.size
    have HS7 : Hid (∀ W, Below wr.heap.size wr W → W.cell? ⟨w.heap.size, 0, none⟩ = some vw ∧ W.cell? ⟨w.heap.size, 1, none⟩ = some (.slice (some ⟨b, off, none⟩) f.acts.length ca) ∧ W.cell? ⟨w.heap.size, 2, none⟩ = some vc ∧ W.cell? ⟨w.heap.size, 3, none⟩ = some vk ∧ W.cell? ⟨w.heap.size, 4, none⟩ = some vi ∧ W.cell? ⟨w.heap.size, 5, none⟩ = some vo ∧ W.cell? ⟨b, off + k * 6, none⟩ = some (.int .i64 xo) ∧ W.cell? ⟨b, off + k * 6 + 1, none⟩ = some (.int .i64 (m : Int)) ∧ W.cell? ⟨b, off + k * 6 + 2, none⟩ = some (.int .i64 xa) ∧ W.cell? ⟨b, off + k * 6 + 3, none⟩ = some (.int .i64 xb) ∧ W.cell? ⟨b, off + k * 6 + 4, none⟩ = some (.int .i64 xc) ∧ W.cell? ⟨b, off + k * 6 + 5, none⟩ = some (.int .i64 xk)) := fun W hW =>
      ⟨(rFr.below hW rFr.lt).cell 0, (rFr.below hW rFr.lt).cell 1, (rFr.below hW rFr.lt).cell 2, (rFr.below hW rFr.lt).cell 3, (rFr.below hW rFr.lt).cell 4, (rFr.below hW rFr.lt).cell 5, cell_kept d0 hW, cell_kept d1 hW, cell_kept d2 hW, cell_kept d3 hW, cell_kept d4 hW, cell_kept d5 hW⟩
    have HR := Lib.hid (fun W (hW : Below wr.heap.size wr W) => rready_any (HFM.out _ (bw.trans (hW.mono hbwl))) (Nat.le_trans hbwl hW.size) ⟨xo, (m : Int), xa, xb, xc, xk⟩ wx HAC.out D ds (rD.below hW hDl4) HDL.out)
    have HQ := Lib.hid (ready_iff HS.out HAC.out.wants)
    have HRD4 := Lib.hid rD
    have HUU := Lib.hid uD
    clear hx hdst wx rFr rD uD
    obtain ⟨P, HP2⟩ : ∃ P : Bool, Hid (cB (∀ n ∈ wantsAll f ⟨xo, (m : Int), xa, xb, xc, xk⟩, bGet ds n = true) = P) := ⟨_, rfl⟩
    rw [HP2.out] at HR
    go_upto_region 7 with (fail)
    clear d0 d1 d2 d3 d4 d5 f0 f1 f2 f3 f4 f5
    go_cut [25] (fun v25 W => v25 = .bool (!P) ∧ Below wr.heap.size wr W)
    case first =>
      refine wp_region_held_drew (S := fun W => W.cell? ⟨w.heap.size, 0, none⟩ = some vw ∧ W.cell? ⟨w.heap.size, 1, none⟩ = some (.slice (some ⟨b, off, none⟩) f.acts.length ca) ∧ W.cell? ⟨w.heap.size, 2, none⟩ = some vc ∧ W.cell? ⟨w.heap.size, 3, none⟩ = some vk ∧ W.cell? ⟨w.heap.size, 4, none⟩ = some vi ∧ W.cell? ⟨w.heap.size, 5, none⟩ = some vo ∧ W.cell? ⟨b, off + k * 6, none⟩ = some (.int .i64 xo) ∧ W.cell? ⟨b, off + k * 6 + 1, none⟩ = some (.int .i64 (m : Int)) ∧ W.cell? ⟨b, off + k * 6 + 2, none⟩ = some (.int .i64 xa) ∧ W.cell? ⟨b, off + k * 6 + 3, none⟩ = some (.int .i64 xb) ∧ W.cell? ⟨b, off + k * 6 + 4, none⟩ = some (.int .i64 xc) ∧ W.cell? ⟨b, off + k * 6 + 5, none⟩ = some (.int .i64 xk)) (by kernel_rfl) ?_ (fun hHeld => ?_)
      · (try dsimp only); (first | (with_reducible exact HS7.out _ bE) | go_keep)
      refine tk 0 (some 17) rfl ?_
      refine tk 1 (some 18) rfl ?_
      refine tk 2 (some 19) rfl ?_
      refine tk 3 (some 20) rfl ?_
      refine tk 4 (some 21) rfl ?_
      refine tk 5 (some 22) rfl ?_
      refine tk 6 (some 23) rfl ?_
      refine rd1 7 (some 24) rfl (fun KK hKK => ?_)
      go_simp
      go_at_call 68; refine Calls.mono (HR.out _ ?hbb) ?_; (case hbb => exact bE); rintro e w8 ⟨rfl, hb8⟩; (have hb9 : Below wr.heap.size wr w8 := Below.trans bE (hb8.mono lE))
      (try go_wp2_with fail)
      refine hKK.out _ _ ?_ (fun hHeld => ?_)
      · (try dsimp only); (first | (with_reducible exact HS7.out _ bE) | go_keep)
      clear hKK KK
      try simp only [Act.put, List.setIfInBounds_toArray, List.set_cons_zero, List.set_cons_succ]
      refine tk 8 (some 25) rfl ?_
      refine wpAnyH_done (by kernel_rfl) ?_ _
      go_wp2_with fail
      go_meet
      exact ⟨by first | rfl | (cases P <;> rfl), bE⟩
    case rest =>
    obtain ⟨rfl, hbc⟩ := hcut
    have u5 := HUU.out.trans (Upd.of_below hbc)
    cases P
    · have HF : Hid (cB (orderedOk f) = false) := cB_false (fun g => by
        have h1 := HI.out.1 g.2
        rw [getI_drop HX.out] at h1
        exact cB_not.1 HP2.out (HQ.out.2 h1.1))
      go_wp2_with fail
      go_ret
      exact ⟨ret_bool HF.out.symm, (HW.out _ u5).1⟩
    have HI' : Hid (ordFrom f f.ins f.acts ↔ ordFrom f ((m : Int) :: H) (f.acts.drop (k + 1))) := by
      refine HI.out.trans ?_
      rw [getI_drop HX.out]
      exact ⟨fun g => g.2, fun g => ⟨HQ.out.1 (cB_iff.1 HP2.out), g⟩⟩
    have HS' : Hid (HaveSt f ((m : Int) :: H) (ds.set m true)) := HS.out.set HAC.out.dst
    have rD5 := HRD4.out.below hbc hDl4
    obtain ⟨f0, f1, f2, f3, f4, f5, d0, d1, d2, d3, d4, d5⟩ := HS7.out _ hbc
    have fD := rD5.frozen m
    have cD := ds_cell rD5 (n := m) (by rw [HDL.out]; exact hm)
    have rD6 := Lib.hid (ds_set (m := m) rD5 true)
    have uD6 := Lib.hid (Upd.setCell (X := fun k => k = D) (p := ⟨D, m, none⟩) u5 rfl (.bool true))
    generalize bGet ds (m : Int) = V at cD
    clear rD5
    go_wp2_with fail
    go_roundw
    case rel => exact ⟨k + 1, (m : Int) :: H, ds.set m true, by omega, by go_num, HS'.out, HI'.out, rD6.out, uD6.out⟩
    case measure => simp [intOf]; omega
end Go.Proofs.Ytbjaejgechadpaa
