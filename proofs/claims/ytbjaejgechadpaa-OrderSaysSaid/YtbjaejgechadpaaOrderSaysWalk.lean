/-
  The walk of the law OrderSays.
-/
import Derived.Test.YtbjaejgechadpaaAwF
import Derived.Test.YtbjaejgechadpaaAwA26
import Derived.Test.YtbjaejgechadpaaR24F
import Derived.Test.YtbjaejgechadpaaNmA
import Derived.Test.YtbjaejgechadpaaRwA
import Derived.Test.YtbjaejgechadpaaSemIJ
import Derived.Deep.RegionHeld3
namespace Go.Proofs.Ytbjaejgechadpaa.orderSays
open Go.RowKit Vf Fo Ar
attribute [local go_sem ↓] Go.wp_at_zero Go.wp_at_succ
theorem rows_next {w W : World} {B : Nat} {v : Value} {l : List (List Int)} (h : SlV w B 1 (isRw w B) v l) (hb : Below B w W) (hB : B ≤ W.heap.size) : SlV W W.heap.size 1 (isRw W W.heap.size) v l :=
  (rowsV_below h hb).keep (fun _ _ _ hc => hc) hB (fun _ _ _ g => by
    obtain ⟨v, h1, h2⟩ := g
    exact ⟨v, h1, h2.more hB⟩)
set_option maxRecDepth 100000 in
set_option maxHeartbeats 16000000 in
theorem walk0 (f : Fm) (rows : List (List Int)) (vw va vc vk vi vo v1 : Value) (w : World) (h : FmAt w w.heap.size f vw va vc vk vi vo) (h1 : RowsIs w rows v1) :
    Calls Try.prog 9 #[fmV vw va vc vk vi vo, v1] w fun e w' => e = .returned (.bool true) ∧ Below w.heap.size w w' := by
  have hcw : ∀ x ∈ f.cells, Wf x.2 := fun x hx => by
    obtain ⟨A, c, _, _, _, s⟩ := h.cells
    exact (s.all (P := fun (x : Int × Int) => Wf x.1 ∧ Wf x.2) (fun x cs g => g.2) x hx).2
  have HCW := Lib.hid hcw
  obtain ⟨Aw, cw, rfl, _, _, _⟩ := id h.wires
  obtain ⟨Aa, ca, rfl, _, _, _⟩ := id h.acts
  obtain ⟨Acc, cc, rfl, _, _, _⟩ := id h.cells
  obtain ⟨Akk, ck, rfl, _, _, _⟩ := id h.keeps
  obtain ⟨Ai, ci, rfl, li, mi, _⟩ := id h.ins
  obtain ⟨Ao, co, rfl, _, _, _⟩ := id h.outs
  have HRW := Lib.hid (fun W (hW : Below w.heap.size w W) => rows_next h1 hW hW.size)
  obtain ⟨Ar, cr, rfl, lr, mr, _⟩ := id h1
  have mr' : cr ≤ 9223372036854775807 := by unfold maxLen at mr; omega
  have b1 : Below w.heap.size w (w.alloc (.cells #[(.slice Aw f.wires.length cw), (.slice Aa f.acts.length ca), (.slice Acc f.cells.length cc), (.slice Akk f.keeps.length ck), (.slice Ai f.ins.length ci), (.slice Ao f.outs.length co)] 48)) := bE
  have rF := Row.new w #[(.slice Aw f.wires.length cw), (.slice Aa f.acts.length ca), (.slice Acc f.cells.length cc), (.slice Akk f.keeps.length ck), (.slice Ai f.ins.length ci), (.slice Ao f.outs.length co)] 48
  have HFM := Lib.hid (fun W (hW : Below w.heap.size w W) => (h.below hW).more hW.size)
  clear h h1 hcw
  go_enter Try.func9, Try.ntmps9
  go_upto_region 1 with (fail)
  generalize w.alloc (.cells #[(.slice Aw f.wires.length cw), (.slice Aa f.acts.length ca), (.slice Acc f.cells.length cc), (.slice Akk f.keeps.length ck), (.slice Ai f.ins.length ci), (.slice Ao f.outs.length co)] 48) = w1 at *
  have hs1 := b1.size
  have HF6 : Hid (∀ W, Below w1.heap.size w1 W → W.cell? ⟨w.heap.size, 0, none⟩ = some (.slice Aw f.wires.length cw) ∧ W.cell? ⟨w.heap.size, 1, none⟩ = some (.slice Aa f.acts.length ca) ∧ W.cell? ⟨w.heap.size, 2, none⟩ = some (.slice Acc f.cells.length cc) ∧ W.cell? ⟨w.heap.size, 3, none⟩ = some (.slice Akk f.keeps.length ck) ∧ W.cell? ⟨w.heap.size, 4, none⟩ = some (.slice Ai f.ins.length ci) ∧ W.cell? ⟨w.heap.size, 5, none⟩ = some (.slice Ao f.outs.length co)) := fun W hW => (rF.below hW rF.lt).six'
  clear rF
  go_wp2_with fail
  refine (awake26_any _).mono ?_
  rintro e w2 ⟨rfl, hb2⟩
  have b2 := b1.trans (hb2.mono hs1)
  obtain ⟨f0, f1, f2, f3, f4, f5⟩ := HF6.out _ hb2
  have HFW := Lib.hid (few26_any (HFM.out _ b2) (Nat.le_refl _))
  go_wp2_with fail
  (with_reducible refine HFW.out.mono ?_)
  rintro e w3 ⟨⟨b, rfl, HB⟩, hb3⟩
  have b3 := b2.trans (hb3.mono b2.size)
  have hq3 := hb2.trans (hb3.mono hb2.size)
  clear f0 f1 f2 f3 f4 f5 HFW hb2 hb3 b1 b2
  cases b
  · go_wp2_with fail
    go_ret
    exact ⟨rfl, b3⟩
  obtain ⟨⟨_, _, hla, hlc, _, hli, hlo⟩, _⟩ := HB.out rfl
  obtain ⟨f0, f1, f2, f3, f4, f5⟩ := HF6.out _ hq3
  have hs3 := b3.size
  have hs3' := hq3.size
  clear HB
  have HF2 := Lib.hid (few22_any rows _ _ w3 (HRW.out _ b3))
  have HRT := Lib.hid (rright_any f _ _ _ _ _ _ w3 (HFM.out _ b3) (by omega) (by omega))
  go_wp2_with fail
  (with_reducible refine HF2.out.mono ?_)
  rintro e _ ⟨⟨b, rfl, HB⟩, rfl⟩
  cases b
  · go_wp2_with fail
    go_ret
    exact ⟨rfl, b3⟩
  obtain ⟨hr12, _⟩ := HB.out rfl
  clear HF2 HB
  by_cases hf : formOk f
  rotate_left 1
  · rw [cB_false hf] at HRT
    go_wp2_with fail
    (with_reducible refine HRT.out.mono ?_)
    rintro e w4 ⟨rfl, hb4⟩
    have b4 := b3.trans (hb4.mono hs3)
    go_wp2_with fail
    go_ret
    exact ⟨rfl, b4⟩
  rw [cB_true hf] at HRT
  have HOK := Lib.hid hf
  have HIW := Lib.hid (fun n hn => (hf.2.1.1 n hn).1)
  clear hf
  go_wp2_with fail
  (with_reducible refine HRT.out.mono ?_)
  rintro e w4 ⟨rfl, hb4⟩
  have b4 := Lib.hid (b3.trans (hb4.mono hs3))
  have hq4 := Lib.hid (hq3.trans (hb4.mono hs3'))
  clear f0 f1 f2 f3 f4 f5 HRT b3 hq3 hs3 hs3' hb4
  go_wp2_with fail
  go_loopw [26] (fun i wr => ∃ k : Nat, k ≤ rows.length ∧ i = .int .i64 k ∧ Hid (∀ j, j < k → ∀ x, rows[j]? = some x → x.length = f.ins.length) ∧ Hid (Below w4.heap.size w4 wr)) (fun i _ => rows.length - (intOf i).toNat)
  case atStart => exact ⟨0, Nat.zero_le _, rfl, fun j hj => absurd hj (by omega), Below.refl _ _⟩
  case round =>
    obtain ⟨k, hk, rfl, HN, HBR⟩ := hrel
    have hbr := b4.out.trans (HBR.out.mono b4.out.size)
    have hqr := hq4.out.trans (HBR.out.mono hq4.out.size)
    by_cases hlt : k < rows.length
    · obtain ⟨A', c', hA', _, _, sl⟩ := HRW.out _ hbr
      injection hA' with hA1 _ hA3
      subst hA1; subst hA3
      obtain ⟨b, off, x, Ax, cx, rfl, hbb, hx, d0, lx, mx, sx⟩ := sl_rw sl hlt
      have hk' : (k : Int) < rows.length := by omega
      have HX := Lib.hid hx
      have HSX := Lib.hid (fun W (hW : Below wr.heap.size wr W) => (sx.below hW).more hW.size)
      have HTY := Lib.hid (rtypes24_any (HFM.out _ hbr) (Nat.le_refl _) f.ins _ (HFM.out _ hbr).ins (by omega) HIW.out)
      have HLX := Lib.hid (And.intro lx mx)
      obtain ⟨f0, f1, f2, f3, f4, f5⟩ := HF6.out _ hqr
      have hsr := hbr.size
      have hsr' := HBR.out.size
      clear hx sl sx lx mx
      go_wp2_with fail
      (with_reducible refine HTY.out.mono ?_)
      rintro e w5 ⟨vt, rfl, hst, hb5⟩
      have HFT := Lib.hid (fits04_any (f.ins.map (tyOf f)) x vt _ _ w5 hst ⟨_, _, rfl, HLX.out.1, HLX.out.2, HSX.out _ hb5⟩)
      have hbn := hbr.trans (hb5.mono hsr)
      have HBN := Lib.hid (HBR.out.trans (hb5.mono hsr'))
      clear f0 f1 f2 f3 f4 f5 HTY hst
      go_wp2_with fail
      (with_reducible refine HFT.out.mono ?_)
      rintro e _ ⟨⟨b, rfl, HBB⟩, rfl⟩
      cases b
      · go_wp2_with fail
        go_ret
        exact ⟨rfl, hbn⟩
      have HN' := Lib.hid (upto_succ HN.out (fun x' hx' => by rw [HX.out] at hx'; injection hx' with hx'; rw [← hx', HBB.out rfl, List.length_map]))
      clear HFT HBB
      go_wp2_with fail
      go_roundw
      case rel => exact ⟨k + 1, by omega, by go_num, HN', HBN⟩
      case measure => simp [intOf]; omega
    · obtain rfl : k = rows.length := by omega
      have HRL : Hid (∀ x ∈ rows, x.length = f.ins.length) := fun x hx => by
        obtain ⟨j, hj⟩ := List.getElem?_of_mem hx
        exact HN.out j (List.getElem?_eq_some_iff.1 hj).1 x hj
      have HO := Lib.hid (order_any f _ _ _ _ _ _ wr (HFM.out _ hbr) (by omega) HOK.out)
      obtain ⟨f0, f1, f2, f3, f4, f5⟩ := HF6.out _ hqr
      clear HN
      go_wp2_with fail
      (with_reducible refine HO.out.mono ?_)
      rintro e w5 ⟨va', out, rfl, hord, hsl, hb5⟩
      obtain ⟨Aq, cq, hvq, _, _, _⟩ := id hsl
      subst hvq
      have b5 := hbr.trans (hb5.mono hbr.size)
      have hq5 := hqr.trans (hb5.mono hqr.size)
      have HPM := Lib.hid (ord_all HOK.out hord)
      have HLEN := Lib.hid HPM.out.length_eq
      have HXOK : Hid (formOk (withActs f out)) := formOk_perm HOK.out HPM.out
      have hlo' : out.length ≤ 1700 := by rw [← HLEN.out]; exact hla
      have b6 : Below w5.heap.size w5 (w5.alloc (.cells #[(.slice Aw f.wires.length cw), (.slice Aq out.length cq), (.slice Acc f.cells.length cc), (.slice Akk f.keeps.length ck), (.slice Ai f.ins.length ci), (.slice Ao f.outs.length co)] 48)) := bE
      have rX := Row.new w5 #[(.slice Aw f.wires.length cw), (.slice Aq out.length cq), (.slice Acc f.cells.length cc), (.slice Akk f.keeps.length ck), (.slice Ai f.ins.length ci), (.slice Ao f.outs.length co)] 48
      have HXM : Hid (∀ W, Below w5.heap.size w5 W → FmAt W W.heap.size (withActs f out) (.slice Aw f.wires.length cw) (.slice Aq out.length cq) (.slice Acc f.cells.length cc) (.slice Akk f.keeps.length ck) (.slice Ai f.ins.length ci) (.slice Ao f.outs.length co)) := fun W hW => by
        have g := HFM.out W (b5.trans (hW.mono b5.size))
        exact ⟨g.wires, (hsl.below hW).more hW.size, g.cells, g.keeps, g.ins, g.outs⟩
      clear f0 f1 f2 f3 f4 f5 HO hord hsl hb5
      have hs5 := b5.size
      have hs5' := hq5.size
      obtain ⟨f0, f1, f2, f3, f4, f5⟩ := HF6.out _ (hq5.trans (b6.mono hs5'))
      go_upto_region 12 with (fail)
      generalize w5.alloc (.cells #[(.slice Aw f.wires.length cw), (.slice Aq out.length cq), (.slice Acc f.cells.length cc), (.slice Akk f.keeps.length ck), (.slice Ai f.ins.length ci), (.slice Ao f.outs.length co)] 48) = w6 at *
      have b7 := b5.trans (b6.mono hs5)
      have hq7 := hq5.trans (b6.mono hs5')
      have hs6 := b6.size
      have HX6 : Hid (∀ W, Below w6.heap.size w6 W → W.cell? ⟨w.heap.size, 0, none⟩ = some (.slice Aw f.wires.length cw) ∧ W.cell? ⟨w.heap.size, 1, none⟩ = some (.slice Aa f.acts.length ca) ∧ W.cell? ⟨w.heap.size, 2, none⟩ = some (.slice Acc f.cells.length cc) ∧ W.cell? ⟨w.heap.size, 3, none⟩ = some (.slice Akk f.keeps.length ck) ∧ W.cell? ⟨w.heap.size, 4, none⟩ = some (.slice Ai f.ins.length ci) ∧ W.cell? ⟨w.heap.size, 5, none⟩ = some (.slice Ao f.outs.length co) ∧ W.cell? ⟨w5.heap.size, 0, none⟩ = some (.slice Aw f.wires.length cw) ∧ W.cell? ⟨w5.heap.size, 1, none⟩ = some (.slice Aq out.length cq) ∧ W.cell? ⟨w5.heap.size, 2, none⟩ = some (.slice Acc f.cells.length cc) ∧ W.cell? ⟨w5.heap.size, 3, none⟩ = some (.slice Akk f.keeps.length ck) ∧ W.cell? ⟨w5.heap.size, 4, none⟩ = some (.slice Ai f.ins.length ci) ∧ W.cell? ⟨w5.heap.size, 5, none⟩ = some (.slice Ao f.outs.length co)) := fun W hW => by
        obtain ⟨g0, g1, g2, g3, g4, g5⟩ := HF6.out _ (hq7.trans (hW.mono hq7.size))
        obtain ⟨k0, k1, k2, k3, k4, k5⟩ := (rX.below hW rX.lt).six'
        exact ⟨g0, g1, g2, g3, g4, g5, k0, k1, k2, k3, k4, k5⟩
      have HBW := Lib.hid (fun W (hW : Below w6.heap.size w6 W) => b7.trans (hW.mono b7.size))
      have HXB := Lib.hid (fun W (hW : Below w6.heap.size w6 W) => HXM.out W (b6.trans (hW.mono hs6)))
      have HR1 := Lib.hid (fun W (hW : Below w6.heap.size w6 W) => rright_any (withActs f out) _ _ _ _ _ _ W (HXB.out W hW) (by show out.length ≤ 100000; omega) (by show f.ins.length ≤ 100000; omega))
      rw [cB_true HXOK.out] at HR1
      have HRX : Hid (∀ W, Below w6.heap.size w6 W → Calls Try.prog 35 #[fmV (.slice Aw f.wires.length cw) (.slice Aq out.length cq) (.slice Acc f.cells.length cc) (.slice Akk f.keeps.length ck) (.slice Ai f.ins.length ci) (.slice Ao f.outs.length co), .slice Ar rows.length cr] W fun e w' => ∃ v, e = .returned v ∧ SlV w' w'.heap.size 1 (isRw w' w'.heap.size) v (rowsF f (f.cells.map (·.2)) rows) ∧ Below W.heap.size W w') := fun W hW => by
        have := rows_any (withActs f out) rows _ _ _ _ _ _ _ W (HXB.out W hW) (HRW.out W (HBW.out W hW)) HXOK.out (by show out.length ≤ 100000; omega) HCW.out HRL.out hr12
        rw [rowsF_perm HPM.out] at this
        exact this
      have HRF : Hid (∀ W, Below w6.heap.size w6 W → Calls Try.prog 35 #[fmV (.slice Aw f.wires.length cw) (.slice Aa f.acts.length ca) (.slice Acc f.cells.length cc) (.slice Akk f.keeps.length ck) (.slice Ai f.ins.length ci) (.slice Ao f.outs.length co), .slice Ar rows.length cr] W fun e w' => ∃ v, e = .returned v ∧ SlV w' w'.heap.size 1 (isRw w' w'.heap.size) v (rowsF f (f.cells.map (·.2)) rows) ∧ Below W.heap.size W w') := fun W hW =>
        rows_any f rows _ _ _ _ _ _ _ W (HFM.out W (HBW.out W hW)) (HRW.out W (HBW.out W hW)) HOK.out (by omega) HCW.out HRL.out hr12
      clear f0 f1 f2 f3 f4 f5 b5 hq5 hs5 hs5' b6 b7 hq7 rX hbr hqr HXM HRW HFM HXB HF6
      refine wp_region_held_drew (S := fun W => W.cell? ⟨w.heap.size, 0, none⟩ = some (.slice Aw f.wires.length cw) ∧ W.cell? ⟨w.heap.size, 1, none⟩ = some (.slice Aa f.acts.length ca) ∧ W.cell? ⟨w.heap.size, 2, none⟩ = some (.slice Acc f.cells.length cc) ∧ W.cell? ⟨w.heap.size, 3, none⟩ = some (.slice Akk f.keeps.length ck) ∧ W.cell? ⟨w.heap.size, 4, none⟩ = some (.slice Ai f.ins.length ci) ∧ W.cell? ⟨w.heap.size, 5, none⟩ = some (.slice Ao f.outs.length co) ∧ W.cell? ⟨w5.heap.size, 0, none⟩ = some (.slice Aw f.wires.length cw) ∧ W.cell? ⟨w5.heap.size, 1, none⟩ = some (.slice Aq out.length cq) ∧ W.cell? ⟨w5.heap.size, 2, none⟩ = some (.slice Acc f.cells.length cc) ∧ W.cell? ⟨w5.heap.size, 3, none⟩ = some (.slice Akk f.keeps.length ck) ∧ W.cell? ⟨w5.heap.size, 4, none⟩ = some (.slice Ai f.ins.length ci) ∧ W.cell? ⟨w5.heap.size, 5, none⟩ = some (.slice Ao f.outs.length co)) (by kernel_rfl) ?_ (fun hHeld => ?_)
      · (try dsimp only); (first | (with_reducible exact HX6.out _ bE))
      refine tk 0 (some 43) rfl ?_
      refine tk 1 (some 44) rfl ?_
      refine tk 2 (some 45) rfl ?_
      refine tk 3 (some 46) rfl ?_
      refine rd1 4 (some 47) rfl (fun KK hKK => ?_)
      go_simp
      (go_at_call 29; refine Calls.mono (HR1.out _ ?hbb) ?_; (case hbb => exact bE); rintro e w8 ⟨rfl, hb8⟩; (have hb9 : Below w6.heap.size w6 w8 := Below.trans bE (hb8.mono lE)); (have hs9 := hb9.size))
      (try go_wp2_with fail)
      refine hKK.out _ _ ?_ (fun hHeld => ?_)
      · (try dsimp only); (first | (with_reducible exact HX6.out _ bE))
      clear hKK KK
      try simp only [Act.put, List.setIfInBounds_toArray, List.set_cons_zero, List.set_cons_succ]
      refine tk 5 (some 48) rfl ?_
      refine tk 6 (some 49) rfl ?_
      refine tk 7 (some 50) rfl ?_
      refine tk 8 (some 51) rfl ?_
      refine tk 10 (some 53) rfl ?_
      refine tk 11 (some 54) rfl ?_
      refine rd1 9 (some 52) rfl (fun KK hKK => ?_)
      go_simp
      first | (go_at_call 35; (with_reducible refine Calls.mono (HRX.out _ ?hbb) ?_); (case hbb => exact bE); rintro e w10 ⟨vx, rfl, hsx, hb10⟩; (have hb11 : Below w6.heap.size w6 w10 := Below.trans bE (hb10.mono lE)); (have hs11 := hb11.size)) | (go_at_call 35; (with_reducible refine Calls.mono (HRF.out _ ?hbb) ?_); (case hbb => exact bE); rintro e w12 ⟨vf, rfl, hsf, hb12⟩; (have hb13 : Below w6.heap.size w6 w12 := Below.trans bE (hb12.mono lE)); (have hs13 := hb13.size))
      (try go_wp2_with fail)
      refine hKK.out _ _ ?_ (fun hHeld => ?_)
      · (try dsimp only); (first | (with_reducible exact HX6.out _ bE))
      clear hKK KK
      try simp only [Act.put, List.setIfInBounds_toArray, List.set_cons_zero, List.set_cons_succ]
      refine rd1 12 (some 55) rfl (fun KK hKK => ?_)
      go_simp
      first | (go_at_call 35; (with_reducible refine Calls.mono (HRX.out _ ?hbb) ?_); (case hbb => exact bE); rintro e w10 ⟨vx, rfl, hsx, hb10⟩; (have hb11 : Below w6.heap.size w6 w10 := Below.trans bE (hb10.mono lE)); (have hs11 := hb11.size)) | (go_at_call 35; (with_reducible refine Calls.mono (HRF.out _ ?hbb) ?_); (case hbb => exact bE); rintro e w12 ⟨vf, rfl, hsf, hb12⟩; (have hb13 : Below w6.heap.size w6 w12 := Below.trans bE (hb12.mono lE)); (have hs13 := hb13.size))
      (try go_wp2_with fail)
      refine hKK.out _ _ ?_ (fun hHeld => ?_)
      · (try dsimp only); (first | (with_reducible exact HX6.out _ bE))
      clear hKK KK
      try simp only [Act.put, List.setIfInBounds_toArray, List.set_cons_zero, List.set_cons_succ]
      refine rd1 13 (some 56) rfl (fun KK hKK => ?_)
      go_simp
      (go_at_call 34; (refine Calls.mono (rows_same _ vx vf _ _ (rows_next hsx hb12 hb12.size) hsf) ?_); rintro e w14 ⟨rfl, n14, rfl⟩)
      (try go_wp2_with fail)
      refine hKK.out _ _ ?_ (fun hHeld => ?_)
      · (try dsimp only); (first | (with_reducible exact HX6.out _ bE))
      clear hKK KK
      try simp only [Act.put, List.setIfInBounds_toArray, List.set_cons_zero, List.set_cons_succ]
      refine tk 14 (some 57) rfl ?_
      refine tk 15 (some 4) rfl ?_
      refine wpAnyH_done (by kernel_rfl) ?_ _
      go_wp2_with fail
      go_ret
      exact ⟨rfl, HBW.out _ bE⟩
theorem walk (f : Fm) (v : Value) (rows : List (List Int)) (v1 : Value) (w : World) (h : FmIs w f v) (h1 : RowsIs w rows v1) : Calls Try.prog 9 #[v, v1] w fun e w' => e = .returned (.bool true) ∧ Below w.heap.size w w' := by
  obtain ⟨vw, va, vc, vk, vi, vo, rfl, ha⟩ := h
  exact walk0 f rows vw va vc vk vi vo v1 w ha h1
end Go.Proofs.Ytbjaejgechadpaa.orderSays
