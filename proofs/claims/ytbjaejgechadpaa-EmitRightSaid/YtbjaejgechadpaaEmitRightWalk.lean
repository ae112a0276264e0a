/-
  The walk of the law EmitRight.
-/
import Derived.Test.YtbjaejgechadpaaEmW
import Derived.Test.YtbjaejgechadpaaNmA
namespace Go.Proofs.Ytbjaejgechadpaa.emitRight
open Go.RowKit Vf Fo
attribute [local go_sem ↓] Go.wp_at_zero Go.wp_at_succ
set_option maxRecDepth 100000 in
set_option maxHeartbeats 8000000 in
theorem walk0 (f : Fm) (vw va vc vk vi vo : Value) (w : World) (h : FmAt w w.heap.size f vw va vc vk vi vo) :
    Calls Try.prog 11 #[fmV vw va vc vk vi vo] w fun e w' => e = .returned (.bool true) ∧ Below w.heap.size w w' := by
  obtain ⟨Aw, cw, rfl, _, _, _⟩ := id h.wires
  have b1 : Below w.heap.size w (w.alloc (.cells #[(.slice Aw f.wires.length cw), va, vc, vk, vi, vo] 48)) := bE
  have rF := Row.new w #[(.slice Aw f.wires.length cw), va, vc, vk, vi, vo] 48
  have HFM := Lib.hid (fun W (hW : Below w.heap.size w W) => (h.below hW).more hW.size)
  clear h
  go_enter Try.func11, Try.ntmps11
  go_upto_region 1 with (fail)
  generalize w.alloc (.cells #[(.slice Aw f.wires.length cw), va, vc, vk, vi, vo] 48) = w1 at *
  have hs1 := b1.size
  have HF6 : Hid (∀ W, Below w1.heap.size w1 W → W.cell? ⟨w.heap.size, 0, none⟩ = some (.slice Aw f.wires.length cw) ∧ W.cell? ⟨w.heap.size, 1, none⟩ = some va ∧ W.cell? ⟨w.heap.size, 2, none⟩ = some vc ∧ W.cell? ⟨w.heap.size, 3, none⟩ = some vk ∧ W.cell? ⟨w.heap.size, 4, none⟩ = some vi ∧ W.cell? ⟨w.heap.size, 5, none⟩ = some vo) := fun W hW => (rF.below hW rF.lt).six'
  clear rF
  go_wp2_with fail
  refine (awake30_any _).mono ?_
  rintro e w2 ⟨rfl, hb2⟩
  have b2 := b1.trans (hb2.mono hs1)
  obtain ⟨f0, f1, f2, f3, f4, f5⟩ := HF6.out _ hb2
  have HFW := Lib.hid (few30_any (HFM.out _ b2) (Nat.le_refl _))
  go_wp2_with fail
  (with_reducible refine HFW.out.mono ?_)
  rintro e w3 ⟨⟨b, rfl, HB⟩, hb3⟩
  have b3 := b2.trans (hb3.mono b2.size)
  have hq3 := hb2.trans (hb3.mono hb2.size)
  clear f0 f1 f2 f3 f4 f5 HFW hb2 hb3 b1 b2
  obtain ⟨f0, f1, f2, f3, f4, f5⟩ := HF6.out _ hq3
  cases b
  · go_wp2_with fail
    go_ret
    exact ⟨rfl, b3⟩
  obtain ⟨⟨_, _, hla, hlc, _, hli, hlo⟩, _⟩ := HB.out rfl
  have hs3 := b3.size
  have hs3' := hq3.size
  clear HB
  by_cases h40 : 40 < f.wires.length
  · have e40 : decide (40 < (f.wires.length : Int)) = true := decide_eq_true (by omega)
    clear h40
    go_wp2_with fail
    go_ret
    exact ⟨rfl, b3⟩
  have e40 : decide (40 < (f.wires.length : Int)) = false := decide_eq_false (by omega)
  clear h40
  have HO := Lib.hid (emit_any f _ _ _ _ _ _ w3 (HFM.out _ b3) (by omega))
  go_wp2_with fail
  (with_reducible refine HO.out.mono ?_)
  rintro e w4 ⟨hout, hb4⟩
  have b4 := b3.trans (hb4.mono hs3)
  have hs4 := b4.size
  clear f0 f1 f2 f3 f4 f5 HO hb4 b3 hq3 hs3 hs3'
  unfold EmOut pg0V at hout
  rcases hout with ⟨_, rfl⟩ | ⟨hord, code, hem, ⟨_, rfl⟩ | ⟨hle, vi', vo', vc', vd', rfl, hpg⟩⟩
  · go_wp2_with fail
    go_ret
    exact ⟨by simp, by first | exact b4.alloc hs4 _ | exact bE⟩
  · go_wp2_with fail
    go_ret
    exact ⟨by simp, by first | exact b4.alloc hs4 _ | exact bE⟩
  have HRO := Lib.hid (emit_right hord hem hle)
  obtain ⟨A0, c0, hv0, _, _, _⟩ := id hpg.ins
  obtain ⟨A1, c1, hv1, _, _, _⟩ := id hpg.outs
  obtain ⟨A3, c3, hv3, _, _, _⟩ := id hpg.cells
  obtain ⟨A4, c4, hv4, _, _, _⟩ := id hpg.code
  subst hv0; subst hv1; subst hv3; subst hv4
  generalize hp : progOf f code = p at *
  have b5 : Below w4.heap.size w4 (w4.alloc (.cells #[.slice A0 p.ins.length c0, .slice A1 p.outs.length c1, .int .i64 p.regs, .slice A3 p.cells.length c3, .slice A4 p.code.length c4] 26)) := bE
  have rP := Row.new w4 #[.slice A0 p.ins.length c0, .slice A1 p.outs.length c1, .int .i64 p.regs, .slice A3 p.cells.length c3, .slice A4 p.code.length c4] 26
  have HKR := Lib.hid (kright_any _ (hpg.next b5))
  rw [cB_true HRO.out] at HKR
  clear hpg hem hord hp
  go_upto_region 6 with (fail)
  generalize w4.alloc (.cells #[.slice A0 p.ins.length c0, .slice A1 p.outs.length c1, .int .i64 p.regs, .slice A3 p.cells.length c3, .slice A4 p.code.length c4] 26) = w5 at *
  have b6 := b4.trans (b5.mono hs4)
  have hs5 := b6.size
  obtain ⟨p0, p1, p2, p3, p4⟩ := rP.five'
  go_wp2_with fail
  (with_reducible refine HKR.out.mono ?_)
  rintro e w6 ⟨rfl, hb6⟩
  have b7 := b6.trans (hb6.mono hs5)
  go_wp2_with fail
  go_ret
  exact ⟨by simp, b7⟩
theorem walk (f : Fm) (v : Value) (w : World) (h : FmIs w f v) : Calls Try.prog 11 #[v] w fun e w' => e = .returned (.bool true) ∧ Below w.heap.size w w' := by
  obtain ⟨vw, va, vc, vk, vi, vo, rfl, ha⟩ := h
  exact walk0 f vw va vc vk vi vo w ha
end Go.Proofs.Ytbjaejgechadpaa.emitRight
