/-
  The walk of the law OrderStays.
-/
import Derived.Test.YtbjaejgechadpaaAwF
import Derived.Test.YtbjaejgechadpaaR26B
import Derived.Test.YtbjaejgechadpaaNmA
namespace Go.Proofs.Ytbjaejgechadpaa.orderStays
open Go.RowKit Vf Fo
attribute [local go_sem ↓] Go.wp_at_zero Go.wp_at_succ
theorem ordFrom_with {f : Fm} {m : List Ac} : ∀ (l : List Ac) (H : List Int), ordFrom f H l → ordFrom (withActs f m) H l
  | [], _, _ => trivial
  | _ :: l, _, h => ⟨h.1, ordFrom_with l _ h.2⟩
set_option maxRecDepth 100000 in
set_option maxHeartbeats 8000000 in
theorem walk0 (f : Fm) (vw va vc vk vi vo : Value) (w : World) (h : FmAt w w.heap.size f vw va vc vk vi vo) :
    Calls Try.prog 8 #[fmV vw va vc vk vi vo] w fun e w' => e = .returned (.bool true) ∧ Below w.heap.size w w' := by
  obtain ⟨Aw, cw, hvw, _, _, _⟩ := h.wires
  obtain ⟨Aa, ca, hva, _, _, _⟩ := h.acts
  obtain ⟨Acc, cc, hvc, _, _, _⟩ := h.cells
  obtain ⟨Akk, ck, hvk, _, _, _⟩ := h.keeps
  obtain ⟨Ai, ci, hvi, _, _, _⟩ := h.ins
  obtain ⟨Ao, co, hvo, _, _, _⟩ := h.outs
  subst hvw
  subst hva
  subst hvc
  subst hvk
  subst hvi
  subst hvo
  have b1 : Below w.heap.size w (w.alloc (.cells #[(.slice Aw f.wires.length cw), (.slice Aa f.acts.length ca), (.slice Acc f.cells.length cc), (.slice Akk f.keeps.length ck), (.slice Ai f.ins.length ci), (.slice Ao f.outs.length co)] 48)) := bE
  have rF := Row.new w #[(.slice Aw f.wires.length cw), (.slice Aa f.acts.length ca), (.slice Acc f.cells.length cc), (.slice Akk f.keeps.length ck), (.slice Ai f.ins.length ci), (.slice Ao f.outs.length co)] 48
  have HFM := Lib.hid (fun W (hW : Below w.heap.size w W) => (h.below hW).more hW.size)
  clear h
  go_enter Try.func8, Try.ntmps8
  go_upto_region 1 with (fail)
  generalize w.alloc (.cells #[(.slice Aw f.wires.length cw), (.slice Aa f.acts.length ca), (.slice Acc f.cells.length cc), (.slice Akk f.keeps.length ck), (.slice Ai f.ins.length ci), (.slice Ao f.outs.length co)] 48) = w1 at *
  have hs1 := b1.size
  have HF6 : Hid (∀ W, Below w1.heap.size w1 W → W.cell? ⟨w.heap.size, 0, none⟩ = some (.slice Aw f.wires.length cw) ∧ W.cell? ⟨w.heap.size, 1, none⟩ = some (.slice Aa f.acts.length ca) ∧ W.cell? ⟨w.heap.size, 2, none⟩ = some (.slice Acc f.cells.length cc) ∧ W.cell? ⟨w.heap.size, 3, none⟩ = some (.slice Akk f.keeps.length ck) ∧ W.cell? ⟨w.heap.size, 4, none⟩ = some (.slice Ai f.ins.length ci) ∧ W.cell? ⟨w.heap.size, 5, none⟩ = some (.slice Ao f.outs.length co)) := fun W hW => (rF.below hW rF.lt).six'
  clear rF
  go_wp2_with fail
  refine (awake26_any _).mono ?_
  rintro e w2 ⟨rfl, hb2⟩
  have b2 := b1.trans (hb2.mono hs1)
  obtain ⟨f0, f1, f2, f3, f4, f5⟩ := HF6.out _ hb2
  have HFW := Lib.hid (few26_any (HFM.out _ b2) (Nat.le_refl _))
  go_wp2_with fail
  (with_reducible refine HFW.out.mono ?_)
  rintro e w3 ⟨⟨b, rfl, HB⟩, hb3⟩
  have b3 := b2.trans (hb3.mono b2.size)
  have hq3 := hb2.trans (hb3.mono hb2.size)
  clear f0 f1 f2 f3 f4 f5 HFW hb2 hb3 b1 b2
  cases b
  · go_wp2_with fail
    go_ret
    exact ⟨rfl, b3⟩
  obtain ⟨⟨_, _, hla, hlc, _, hli, hlo⟩, _⟩ := HB.out rfl
  obtain ⟨f0, f1, f2, f3, f4, f5⟩ := HF6.out _ hq3
  have hs3 := b3.size
  have hs3' := hq3.size
  clear HB
  by_cases hf : formOk f
  rotate_left 1
  · have HO := Lib.hid (order_no f _ _ _ _ _ _ w3 (HFM.out _ b3) (by omega) hf)
    unfold fm0 at HO
    have HNO : Hid (¬ orderedOk f) := fun g => hf g.1
    clear hf
    go_wp2_with fail
    (with_reducible refine HO.out.mono ?_)
    rintro e w4 ⟨rfl, hb4⟩
    have b4 := b3.trans (hb4.mono hs3)
    have hq4 := hq3.trans (hb4.mono hs3')
    have hs4 := b4.size
    have b5 : Below w.heap.size w (w4.alloc (.cells zf6 48)) := bE
    have hq5 : Below w1.heap.size w1 (w4.alloc (.cells zf6 48)) := hq4.trans (Below.mono (bE : Below w4.heap.size w4 _) hq4.size)
    clear f0 f1 f2 f3 f4 f5 HO hb4 b3 hq3 hs3 hs3'
    obtain ⟨f0, f1, f2, f3, f4, f5⟩ := HF6.out _ hq5
    have HOD := Lib.hid (ordered_any f _ _ _ _ _ _ _ (HFM.out _ b5) (by omega))
    rw [cB_false HNO.out] at HOD
    go_upto_region 6 with (fail)
    change Code.wp _ _ _ _ (w4.alloc (.cells zf6 48))
    generalize w4.alloc (.cells zf6 48) = w5 at *
    have hs5 := b5.size
    go_wp2_with fail
    (with_reducible refine HOD.out.mono ?_)
    rintro e w6 ⟨rfl, hb6⟩
    have b6 := b5.trans (hb6.mono hs5)
    go_wp2_with fail
    go_ret
    exact ⟨by simp, b6⟩
  have HO := Lib.hid (order_any f _ _ _ _ _ _ w3 (HFM.out _ b3) (by omega) hf)
  have HOK := Lib.hid hf
  clear hf
  go_wp2_with fail
  (with_reducible refine HO.out.mono ?_)
  rintro e w4 ⟨va', out, rfl, hord, hsl, hb4⟩
  obtain ⟨Aq, cq, hvq, _, _, _⟩ := id hsl
  subst hvq
  have b4 := b3.trans (hb4.mono hs3)
  have hq4 := hq3.trans (hb4.mono hs3')
  have HPM := Lib.hid (ord_all HOK.out hord)
  have HLEN := Lib.hid HPM.out.length_eq
  have HXOK : Hid (formOk (withActs f out)) := formOk_perm HOK.out HPM.out
  have HXOR : Hid (orderedOk (withActs f out)) := ⟨HXOK.out, ordFrom_with _ _ hord.ordFrom⟩
  have HSELF : Hid (Ord (withActs f out) f.ins out out) := ord_self HXOR.out.2
  have HSAME : Hid (orderedOk f → out = f.acts) := fun g => hord.uniq (ord_self g.2)
  have hlo' : out.length ≤ 1700 := by rw [← HLEN.out]; exact hla
  have b5 : Below w4.heap.size w4 (w4.alloc (.cells #[(.slice Aw f.wires.length cw), (.slice Aq out.length cq), (.slice Acc f.cells.length cc), (.slice Akk f.keeps.length ck), (.slice Ai f.ins.length ci), (.slice Ao f.outs.length co)] 48)) := bE
  have rX := Row.new w4 #[(.slice Aw f.wires.length cw), (.slice Aq out.length cq), (.slice Acc f.cells.length cc), (.slice Akk f.keeps.length ck), (.slice Ai f.ins.length ci), (.slice Ao f.outs.length co)] 48
  have HXM : Hid (∀ W, Below w4.heap.size w4 W → FmAt W W.heap.size (withActs f out) (.slice Aw f.wires.length cw) (.slice Aq out.length cq) (.slice Acc f.cells.length cc) (.slice Akk f.keeps.length ck) (.slice Ai f.ins.length ci) (.slice Ao f.outs.length co)) := fun W hW => by
    have g := HFM.out W (b4.trans (hW.mono b4.size))
    exact ⟨g.wires, (hsl.below hW).more hW.size, g.cells, g.keeps, g.ins, g.outs⟩
  clear f0 f1 f2 f3 f4 f5 HO hord hsl hb4 b3 hq3 hs3 hs3'
  have hs4 := b4.size
  have hs4' := hq4.size
  have hq45 := hq4.trans (b5.mono hs4')
  obtain ⟨f0, f1, f2, f3, f4, f5⟩ := HF6.out _ hq45
  obtain ⟨x0, x1, x2, x3, x4, x5⟩ := rX.six'
  have HO2 := Lib.hid (order_any (withActs f out) _ _ _ _ _ _ _ (HXM.out _ b5) (by show f.cells.length ≤ 1600; omega) HXOK.out)
  go_upto_region 6 with (fail)
  generalize w4.alloc (.cells #[(.slice Aw f.wires.length cw), (.slice Aq out.length cq), (.slice Acc f.cells.length cc), (.slice Akk f.keeps.length ck), (.slice Ai f.ins.length ci), (.slice Ao f.outs.length co)] 48) = w5 at *
  have b6 := b4.trans (b5.mono hs4)
  have hs5 := b6.size
  have hs5' := hq45.size
  have hs45 := b5.size
  go_wp2_with fail
  (with_reducible refine HO2.out.mono ?_)
  rintro e w8 ⟨vy, out2, rfl, hord2, hsl2, hb8⟩
  obtain rfl := HSELF.out.uniq hord2
  obtain ⟨Ay, cy, hvy, _, _, _⟩ := id hsl2
  subst hvy
  have b8 := b6.trans (hb8.mono hs5)
  have b48 := b5.trans (hb8.mono hs45)
  have hq8 := hq45.trans (hb8.mono hs5')
  have rX8 := rX.below hb8 rX.lt
  have b9 : Below w8.heap.size w8 (w8.alloc (.cells #[(.slice Aw f.wires.length cw), (.slice Ay out.length cy), (.slice Acc f.cells.length cc), (.slice Akk f.keeps.length ck), (.slice Ai f.ins.length ci), (.slice Ao f.outs.length co)] 48)) := bE
  have rY := Row.new w8 #[(.slice Aw f.wires.length cw), (.slice Ay out.length cy), (.slice Acc f.cells.length cc), (.slice Akk f.keeps.length ck), (.slice Ai f.ins.length ci), (.slice Ao f.outs.length co)] 48
  have HSY := Lib.hid (fun W (hW : Below w8.heap.size w8 W) => (hsl2.below hW).more hW.size)
  clear f0 f1 f2 f3 f4 f5 x0 x1 x2 x3 x4 x5 HO2 hord2 hsl2 hb8 rX b5 b6 hq4 hq45 hs4 hs4' hs5 hs5' hs45
  have hs8 := b8.size
  have hs8' := hq8.size
  have hs48 := b48.size
  have HFX : Hid (∀ W, Below w8.heap.size w8 W → W.cell? ⟨w.heap.size, 0, none⟩ = some (.slice Aw f.wires.length cw) ∧ W.cell? ⟨w.heap.size, 1, none⟩ = some (.slice Aa f.acts.length ca) ∧ W.cell? ⟨w.heap.size, 2, none⟩ = some (.slice Acc f.cells.length cc) ∧ W.cell? ⟨w.heap.size, 3, none⟩ = some (.slice Akk f.keeps.length ck) ∧ W.cell? ⟨w.heap.size, 4, none⟩ = some (.slice Ai f.ins.length ci) ∧ W.cell? ⟨w.heap.size, 5, none⟩ = some (.slice Ao f.outs.length co) ∧ W.cell? ⟨w4.heap.size, 0, none⟩ = some (.slice Aw f.wires.length cw) ∧ W.cell? ⟨w4.heap.size, 1, none⟩ = some (.slice Aq out.length cq) ∧ W.cell? ⟨w4.heap.size, 2, none⟩ = some (.slice Acc f.cells.length cc) ∧ W.cell? ⟨w4.heap.size, 3, none⟩ = some (.slice Akk f.keeps.length ck) ∧ W.cell? ⟨w4.heap.size, 4, none⟩ = some (.slice Ai f.ins.length ci) ∧ W.cell? ⟨w4.heap.size, 5, none⟩ = some (.slice Ao f.outs.length co)) := fun W hW => by
    obtain ⟨g0, g1, g2, g3, g4, g5⟩ := HF6.out _ (hq8.trans (hW.mono hs8'))
    obtain ⟨k0, k1, k2, k3, k4, k5⟩ := (rX8.below hW rX8.lt).six'
    exact ⟨g0, g1, g2, g3, g4, g5, k0, k1, k2, k3, k4, k5⟩
  have HXM8 := Lib.hid (fun W (hW : Below w8.heap.size w8 W) => HXM.out W (b48.trans (hW.mono hs48)))
  have HFM8 := Lib.hid (fun W (hW : Below w8.heap.size w8 W) => HFM.out W (b8.trans (hW.mono hs8)))
  have HBB := Lib.hid (fun W (hW : Below w8.heap.size w8 W) => b8.trans (hW.mono hs8))
  clear HF6 HXM HFM rX8 b48 hq8 hs8 hs8' hs48 b4 b8
  obtain ⟨f0, f1, f2, f3, f4, f5, x0, x1, x2, x3, x4, x5⟩ := HFX.out _ b9
  obtain ⟨y0, y1, y2, y3, y4, y5⟩ := rY.six'
  have HR := Lib.hid (rright_any (withActs f out) _ _ _ _ _ _ _ (HXM8.out _ b9) (by show out.length ≤ 100000; omega) (by show f.ins.length ≤ 100000; omega))
  rw [cB_true HXOK.out] at HR
  go_upto_region 9 with (fail)
  generalize w8.alloc (.cells #[(.slice Aw f.wires.length cw), (.slice Ay out.length cy), (.slice Acc f.cells.length cc), (.slice Akk f.keeps.length ck), (.slice Ai f.ins.length ci), (.slice Ao f.outs.length co)] 48) = w9 at *
  have hs9 := b9.size
  go_wp2_with fail
  (with_reducible refine HR.out.mono ?_)
  rintro e w10 ⟨rfl, hb10⟩
  have b10 := b9.trans (hb10.mono hs9)
  have hs10 := b10.size
  have rY10 := rY.below hb10 rY.lt
  have HOX := Lib.hid (ordered_any (withActs f out) _ _ _ _ _ _ _ (HXM8.out _ b10) (by show f.cells.length ≤ 1600; omega))
  rw [cB_true HXOR.out] at HOX
  clear f0 f1 f2 f3 f4 f5 x0 x1 x2 x3 x4 x5 y0 y1 y2 y3 y4 y5 HR rY hb10
  obtain ⟨f0, f1, f2, f3, f4, f5, x0, x1, x2, x3, x4, x5⟩ := HFX.out _ b10
  obtain ⟨y0, y1, y2, y3, y4, y5⟩ := rY10.six'
  go_wp2_with fail
  (with_reducible refine HOX.out.mono ?_)
  rintro e w11 ⟨rfl, hb11⟩
  have b11 := b10.trans (hb11.mono hs10)
  have hs11 := b11.size
  have rY11 := rY10.below hb11 rY10.lt
  have HSM := Lib.hid (rsame_any out out _ _ _ w11 (HSY.out _ b11) (HXM8.out _ b11).acts)
  rw [show cB (out = out) = true from cB_true rfl] at HSM
  clear f0 f1 f2 f3 f4 f5 x0 x1 x2 x3 x4 x5 y0 y1 y2 y3 y4 y5 HOX rY10 hb11
  obtain ⟨f0, f1, f2, f3, f4, f5, x0, x1, x2, x3, x4, x5⟩ := HFX.out _ b11
  obtain ⟨y0, y1, y2, y3, y4, y5⟩ := rY11.six'
  go_wp2_with fail
  (with_reducible refine HSM.out.mono ?_)
  rintro e w12 ⟨rfl, n12, rfl⟩
  have b12 : Below w8.heap.size w8 (w11.drewN n12) := below_drewN' b11 _
  clear f0 f1 f2 f3 f4 f5 x0 x1 x2 x3 x4 x5 y0 y1 y2 y3 y4 y5 HSM rY11
  generalize w11.drewN n12 = w12 at *
  obtain ⟨f0, f1, f2, f3, f4, f5, x0, x1, x2, x3, x4, x5⟩ := HFX.out _ b12
  have hs12 := b12.size
  have hne : ((out.length : Int) != (f.acts.length : Int)) = false := by rw [bne_eq_false_iff_eq, HLEN.out]
  have HOF := Lib.hid (ordered_any f _ _ _ _ _ _ _ (HFM8.out _ b12) (by omega))
  by_cases ho : orderedOk f
  rotate_left 1
  · rw [cB_false ho] at HOF
    clear ho
    go_wp2_with fail
    (with_reducible refine HOF.out.mono ?_)
    rintro e w13 ⟨rfl, hb13⟩
    have b13 := b12.trans (hb13.mono hs12)
    clear f0 f1 f2 f3 f4 f5 x0 x1 x2 x3 x4 x5
    go_wp2_with fail
    go_ret
    exact ⟨by simp, HBB.out _ b13⟩
  rw [cB_true ho] at HOF
  have HEQ := Lib.hid (HSAME.out ho)
  clear ho
  go_wp2_with fail
  (with_reducible refine HOF.out.mono ?_)
  rintro e w13 ⟨rfl, hb13⟩
  have b13 := b12.trans (hb13.mono hs12)
  clear f0 f1 f2 f3 f4 f5 x0 x1 x2 x3 x4 x5
  obtain ⟨f0, f1, f2, f3, f4, f5, x0, x1, x2, x3, x4, x5⟩ := HFX.out _ b13
  have HSM := Lib.hid (rsame_any out f.acts _ _ _ w13 (HXM8.out _ b13).acts (HFM8.out _ b13).acts)
  rw [cB_true HEQ.out] at HSM
  go_wp2_with fail
  (with_reducible refine HSM.out.mono ?_)
  rintro e w14 ⟨rfl, n14, rfl⟩
  have b14 : Below w8.heap.size w8 (w13.drewN n14) := below_drewN' b13 _
  go_wp2_with fail
  go_ret
  exact ⟨by simp, HBB.out _ b14⟩
theorem walk (f : Fm) (v : Value) (w : World) (h : FmIs w f v) : Calls Try.prog 8 #[v] w fun e w' => e = .returned (.bool true) ∧ Below w.heap.size w w' := by
  obtain ⟨vw, va, vc, vk, vi, vo, rfl, ha⟩ := h
  exact walk0 f vw va vc vk vi vo w ha
end Go.Proofs.Ytbjaejgechadpaa.orderStays
