/-
  The document's order of acts: at, ready, Same.
-/
import Derived.Test.YtbjaejgechadpaaR24D
import Derived.Deep.DeepCutAuto
namespace Go.Proofs.Ytbjaejgechadpaa
open Go.RowKit Vf Fo
attribute [local go_sem ↓] Go.wp_at_zero Go.wp_at_succ
set_option maxRecDepth 100000 in
set_option maxHeartbeats 4000000 in
theorem rat_any {w : World} {B : Nat} {f : Fm} {vw va vc vk vi vo : Value} (h : FmAt w B f vw va vc vk vi vo) (hB : B ≤ w.heap.size) (hwl : f.wires.length ≤ 1600) (hins : ∀ n ∈ f.ins, isW f n) :
    Calls Try.prog 67 #[fmV vw va vc vk vi vo] w (ThereIs f w) := by
  obtain ⟨Aw, cw, rfl, lw, mw, sw⟩ := h.wires
  obtain ⟨Ai, ci, rfl, li, mi, si⟩ := h.ins
  have mw' : cw ≤ 9223372036854775807 := by unfold maxLen at mw; omega
  have mi' : ci ≤ 9223372036854775807 := by unfold maxLen at mi; omega
  have mk := make_bools f.wires.length (by omega) (by omega)
  have HSI := Lib.hid (fun W (hW : Below w.heap.size w W) => si.below (hW.mono hB))
  have HI := Lib.hid hins
  clear h sw si hins
  go_enter Try.func67, Try.ntmps67
  go_upto_region 2 with (fail)
  have b1 : Below w.heap.size w ((w.alloc (.cells #[.slice Aw f.wires.length cw, va, vc, vk, .slice Ai f.ins.length ci, vo] 48)).alloc (.cells (Array.replicate f.wires.length (.bool false)) 4)) := bE
  have rF1 : Row ((w.alloc (.cells #[.slice Aw f.wires.length cw, va, vc, vk, .slice Ai f.ins.length ci, vo] 48)).alloc (.cells (Array.replicate f.wires.length (.bool false)) 4)) w.heap.size #[.slice Aw f.wires.length cw, va, vc, vk, .slice Ai f.ins.length ci, vo] 48 := (Row.new w _ _).alloc _
  have rD1 : Row ((w.alloc (.cells #[.slice Aw f.wires.length cw, va, vc, vk, .slice Ai f.ins.length ci, vo] 48)).alloc (.cells (Array.replicate f.wires.length (.bool false)) 4)) (w.heap.size + 1) (bls (List.replicate f.wires.length false)).toArray 4 := by
    have := rowNew2 w (.cells #[.slice Aw f.wires.length cw, va, vc, vk, .slice Ai f.ins.length ci, vo] 48) (Array.replicate f.wires.length (.bool false)) 4
    simpa [bls] using this
  generalize (w.alloc (.cells #[.slice Aw f.wires.length cw, va, vc, vk, .slice Ai f.ins.length ci, vo] 48)).alloc (.cells (Array.replicate f.wires.length (.bool false)) 4) = w1 at *
  generalize hD : w.heap.size + 1 = D at *
  generalize hG : w.heap.size = G at *
  have hs1 := b1.size
  have hGD : G ≠ D := by omega
  have hGD' : G ≤ D := by omega
  have hDlt := rD1.lt
  have HFI : Hid (∀ W, Upd (fun k => k = D) w1 W → Below G w W) := fun W hW => (b1.trans ((hW.below (B := D) (fun k hk => by omega) (by omega)).mono (by omega)))
  have HRD := Lib.hid rD1
  have HF6 : Hid (∀ W, Upd (fun k => k = D) w1 W → W.cell? ⟨G, 0, none⟩ = some (.slice Aw f.wires.length cw) ∧ W.cell? ⟨G, 1, none⟩ = some va ∧ W.cell? ⟨G, 2, none⟩ = some vc ∧ W.cell? ⟨G, 3, none⟩ = some vk ∧ W.cell? ⟨G, 4, none⟩ = some (.slice Ai f.ins.length ci) ∧ W.cell? ⟨G, 5, none⟩ = some vo) := fun W hW => (hW.row rF1 hGD).six'
  obtain ⟨f0, f1, f2, f3, f4, f5⟩ := rF1.six'
  clear rF1 rD1 b1 hs1 mk hD
  go_wp2_with fail
  go_loopw [4] (fun i wr => ∃ (k : Nat) (ds : List Bool), k ≤ f.ins.length ∧ i = .int .i64 k ∧ Hid (HaveSt f (f.ins.take k) ds) ∧ Row wr D (bls ds).toArray 4 ∧ Upd (fun k => k = D) w1 wr) (fun i _ => f.ins.length - (intOf i).toNat)
  case atStart => exact ⟨0, List.replicate f.wires.length false, Nat.zero_le _, rfl, (by rw [List.take_zero]; exact have_start f), HRD.out, Upd.refl _ _⟩
  case round =>
    clear f0 f1 f2 f3 f4 f5
    obtain ⟨k, ds, hk, rfl, HS, rD, uD⟩ := hrel
    have HDL := Lib.hid HS.out.1
    obtain ⟨f0, f1, f2, f3, f4, f5⟩ := HF6.out _ uD
    by_cases hlt : k < f.ins.length
    · obtain ⟨b, off, n, rfl, hbb, hx, wx, d0⟩ := (HSI.out _ (HFI.out _ uD)).int hlt
      have hw := HI.out n (List.mem_of_getElem? hx)
      have HX := Lib.hid hx
      have HW := Lib.hid hw
      obtain ⟨m, rfl⟩ := Int.eq_ofNat_of_zero_le hw.1
      have hm : m < f.wires.length := by have := hw.2; omega
      have hm' : (m : Int) < f.wires.length := by omega
      have fD := rD.frozen m
      have cD := ds_cell rD (n := m) (by rw [HDL.out]; exact hm)
      have rD6 := Lib.hid (ds_set (m := m) rD true)
      have uD6 := Lib.hid (Upd.setCell (X := fun k => k = D) (p := ⟨D, m, none⟩) uD rfl (.bool true))
      have HS' : Hid (HaveSt f (f.ins.take (k + 1)) (ds.set m true)) := (HS.out.set HW.out).congr (fun q => by
        rw [take_snoc' HX.out]; simp [or_comm])
      generalize bGet ds (m : Int) = V at cD
      clear hx hw rD
      go_wp2_with fail
      go_roundw
      case rel => exact ⟨k + 1, ds.set m true, by omega, by go_num, HS'.out, rD6.out, uD6.out⟩
      case measure => simp [intOf]; omega
    obtain rfl : k = f.ins.length := by omega
    have HH : Hid (HaveSt f f.ins ds) := by have := HS.out; rwa [List.take_length] at this
    go_wp2_with fail
    go_ret
    exact ⟨D, ds, rfl, by omega, rD, HH.out, by rw [hG]; exact HFI.out _ uD⟩
set_option maxRecDepth 100000 in
set_option maxHeartbeats 4000000 in
theorem rready_any {w : World} {B : Nat} {f : Fm} {vw va vc vk vi vo : Value} (h : FmAt w B f vw va vc vk vi vo) (hB : B ≤ w.heap.size) (x : Ac) (wx : AcIn x) (ho : AcOk f x)
    (D : Nat) (ds : List Bool) (rD : Row w D (bls ds).toArray 4) (hdl : ds.length = f.wires.length) :
    Calls Try.prog 68 #[fmV vw va vc vk vi vo, acV x, .slice (some ⟨D, 0, none⟩) f.wires.length f.wires.length] w fun e w' => e = .returned (.bool (cB (∀ n ∈ wantsAll f x, bGet ds n = true))) ∧ Below w.heap.size w w' := by
  obtain ⟨op, dst, a, b, c, k⟩ := x
  have hrl := rD.lt
  have HR := Lib.hid (fun W (hW : Below w.heap.size w W) => rD.below hW hrl)
  have HDL := Lib.hid hdl
  have HWA := Lib.hid ho.wants
  have b1 : Below w.heap.size w ((w.alloc (.cells #[vw, va, vc, vk, vi, vo] 48)).alloc (.cells #[.int .i64 op, .int .i64 dst, .int .i64 a, .int .i64 b, .int .i64 c, .int .i64 k] 91)) := bE
  have HWN := Lib.hid (rwants_any (h.below (b1.mono hB)) (Nat.le_trans hB b1.size) ⟨op, dst, a, b, c, k⟩ wx ho)
  have rF : Row ((w.alloc (.cells #[vw, va, vc, vk, vi, vo] 48)).alloc (.cells #[.int .i64 op, .int .i64 dst, .int .i64 a, .int .i64 b, .int .i64 c, .int .i64 k] 91)) w.heap.size #[vw, va, vc, vk, vi, vo] 48 := (Row.new w _ _).alloc _
  have rX : Row ((w.alloc (.cells #[vw, va, vc, vk, vi, vo] 48)).alloc (.cells #[.int .i64 op, .int .i64 dst, .int .i64 a, .int .i64 b, .int .i64 c, .int .i64 k] 91)) (w.heap.size + 1) #[.int .i64 op, .int .i64 dst, .int .i64 a, .int .i64 b, .int .i64 c, .int .i64 k] 91 := rowNew2 w _ _ _
  clear h wx ho rD hdl
  go_enter Try.func68, Try.ntmps68
  go_upto_region 1 with (fail)
  generalize (w.alloc (.cells #[vw, va, vc, vk, vi, vo] 48)).alloc (.cells #[.int .i64 op, .int .i64 dst, .int .i64 a, .int .i64 b, .int .i64 c, .int .i64 k] 91) = w1 at *
  obtain ⟨f0, f1, f2, f3, f4, f5⟩ := rF.six'
  obtain ⟨c0, c1, c2, c3, c4, c5⟩ := rX.six'
  have hs1 := b1.size
  go_wp2_with fail
  (with_reducible refine HWN.out.mono ?_)
  rintro e w2 ⟨v2, rfl, hs2, hb2⟩
  have hb12 := b1.trans (hb2.mono hs1)
  obtain ⟨A2, cap2, rfl, lv2, mv2, sv2⟩ := hs2
  have mv2' : cap2 ≤ 9223372036854775807 := by unfold maxLen at mv2; omega
  have HSV := Lib.hid sv2
  generalize hwl2 : wantsAll f ⟨op, dst, a, b, c, k⟩ = wl at *
  have HWL := Lib.hid hwl2
  clear c0 c1 c2 c3 c4 c5 f0 f1 f2 f3 f4 f5 hb2 b1 sv2 hwl2 HWN rF rX hs1
  go_wp2_with fail
  go_loopw [8] (fun i wr => ∃ j : Nat, j ≤ wl.length ∧ i = .int .i64 j ∧ Hid (∀ i, i < j → ∀ n, wl[i]? = some n → bGet ds n = true) ∧ w2 = wr) (fun i _ => wl.length - (intOf i).toNat)
  case atStart => exact ⟨0, Nat.zero_le _, rfl, fun j h => absurd h (by omega), rfl⟩
  case round =>
    obtain ⟨j, hj, rfl, HP, rfl⟩ := hrel
    by_cases hlt : j < wl.length
    · obtain ⟨b3, off3, n, rfl, hb3, hn, wn, e0⟩ := HSV.out.int hlt
      have hWn := HWA.out n (List.mem_of_getElem? hn)
      have HNn := Lib.hid hn
      obtain ⟨m, rfl⟩ := Int.eq_ofNat_of_zero_le hWn.1
      have hml : m < f.wires.length := by have := hWn.2; omega
      have hml' : (m : Int) < f.wires.length := by omega
      have y0 := ds_cell (HR.out _ hb12) (n := m) (by rw [HDL.out]; exact hml)
      generalize hV : bGet ds (m : Int) = V at y0
      have HV' := Lib.hid hV
      clear hn hWn hV
      cases V
      · have HF : Hid (cB (∀ n ∈ wantsAll f ⟨op, dst, a, b, c, k⟩, bGet ds n = true) = false) := cB_false (fun g => by rw [HWL.out] at g; have := g _ (List.mem_of_getElem? HNn.out); rw [HV'.out] at this; cases this)
        go_wp2_with fail
        go_ret
        exact ⟨ret_bool HF.out.symm, hb12⟩
      · have HP' := Lib.hid (upto_succ HP.out (fun n' hn' => by rw [HNn.out] at hn'; injection hn' with hn'; rw [← hn']; exact HV'.out))
        go_wp2_with fail
        go_roundw
        case rel => exact ⟨j + 1, by omega, by go_num, HP', trivial⟩
        case measure => first | (simp [intOf]; omega) | simp [intOf]
    obtain rfl : j = wl.length := by omega
    have HF : Hid (cB (∀ n ∈ wantsAll f ⟨op, dst, a, b, c, k⟩, bGet ds n = true) = true) := cB_true (by rw [HWL.out]; exact all_upto HP.out)
    go_wp2_with fail
    go_ret
    exact ⟨ret_bool HF.out.symm, hb12⟩
theorem ac_ext {x y : Ac} (h0 : x.op = y.op) (h1 : x.dst = y.dst) (h2 : x.a = y.a) (h3 : x.b = y.b) (h4 : x.c = y.c) (h5 : x.k = y.k) : x = y := by cases x; cases y; simp_all
theorem acs_eq {l m : List Ac} (hl : l.length = m.length) (h : ∀ j, j < l.length → ∀ x y, l[j]? = some x → m[j]? = some y → x = y) : l = m := by
  apply List.ext_getElem hl
  intro i h1 h2
  exact h i h1 _ _ (List.getElem?_eq_getElem h1) (List.getElem?_eq_getElem h2)
set_option maxRecDepth 100000 in
set_option maxHeartbeats 4000000 in
theorem rsame_any (l m : List Ac) (v1 v2 : Value) (B : Nat) (w : World) (h1 : SlV w B 6 isAc v1 l) (h2 : SlV w B 6 isAc v2 m) :
    Calls Try.prog 30 #[v1, v2] w fun e w' => e = .returned (.bool (cB (l = m))) ∧ ∃ n, w' = w.drewN n := by
  obtain ⟨A1, c1, rfl, l1, m1, s1⟩ := h1
  obtain ⟨A2, c2, rfl, l2, m2, s2⟩ := h2
  have m1' : c1 ≤ 9223372036854775807 := by unfold maxLen at m1; omega
  have m2' : c2 ≤ 9223372036854775807 := by unfold maxLen at m2; omega
  by_cases hl : l.length = m.length
  rotate_left 1
  · have HF := Lib.hid (cB_false (fun g : l = m => hl (by rw [g])))
    have hl' : ((l.length : Int) != (m.length : Int)) = true := by rw [bne_iff_ne]; omega
    clear hl
    go_enter Try.func30, Try.ntmps30
    go_wp2_with fail
    go_ret
    exact ⟨ret_bool HF.out.symm, 0, rfl⟩
  have hl' : ((l.length : Int) != (m.length : Int)) = false := by rw [bne_eq_false_iff_eq]; omega
  have HL := Lib.hid hl
  have hle1 : l.length ≤ m.length := by omega
  clear hl
  go_enter Try.func30, Try.ntmps30
  go_wp2_with fail
  go_loopw [5] (fun i wr => ∃ k : Nat, k ≤ l.length ∧ i = .int .i64 k ∧ Hid (∀ j, j < k → ∀ x y, l[j]? = some x → m[j]? = some y → x = y) ∧ ∃ n, wr = w.drewN n) (fun i _ => l.length - (intOf i).toNat)
  case atStart => exact ⟨0, Nat.zero_le _, rfl, fun j h => absurd h (by omega), 0, rfl⟩
  case round =>
    obtain ⟨k, hk, rfl, HN, n, rfl⟩ := hrel
    by_cases hlt : k < l.length
    · obtain ⟨b1, o1, ⟨x0, x1, x2, x3, x4, x5⟩, rfl, hb1, hx, wx, d0, d1, d2, d3, d4, d5⟩ := s1.ac hlt
      obtain ⟨b2, o2, ⟨y0, y1, y2, y3, y4, y5⟩, rfl, hb2, hy, wy, e0, e1, e2, e3, e4, e5⟩ := s2.ac (show k < m.length by omega)
      dsimp only at d0 d1 d2 d3 d4 d5 e0 e1 e2 e3 e4 e5
      have HX := Lib.hid hx
      have HY := Lib.hid hy
      clear hx hy
      have hk1 : (k : Int) < l.length := by omega
      have hk2 : (k : Int) < m.length := by omega
      have hk0 : (0 : Int) ≤ (k : Int) := by omega
      have HNE : Hid (¬ ((⟨x0, x1, x2, x3, x4, x5⟩ : Ac) = ⟨y0, y1, y2, y3, y4, y5⟩) → cB (l = m) = false) := fun hn => cB_false (fun g => hn (by
        have := HX.out
        rw [g, HY.out] at this
        injection this with this
        exact this.symm))
      by_cases q0 : x0 = y0
      rotate_left 1
      · have HF := Lib.hid (HNE.out (fun g => q0 (by injection g)))
        have q0' : (x0 == y0) = false := by simp [q0]
        clear q0
        go_wp2_with fail
        go_quiet (fail)
        go_wp2_with fail
        go_ret
        exact ⟨ret_bool HF.out.symm, by first | exact ⟨_, rfl⟩ | (rw [World.drewN_drewN]; exact ⟨_, rfl⟩)⟩
      have q0' : (x0 == y0) = true := by simp [q0]
      by_cases q1 : x1 = y1
      rotate_left 1
      · have HF := Lib.hid (HNE.out (fun g => q1 (by injection g)))
        have q1' : (x1 == y1) = false := by simp [q1]
        clear q0 q1
        go_wp2_with fail
        go_quiet (fail)
        go_wp2_with fail
        go_ret
        exact ⟨ret_bool HF.out.symm, by first | exact ⟨_, rfl⟩ | (rw [World.drewN_drewN]; exact ⟨_, rfl⟩)⟩
      have q1' : (x1 == y1) = true := by simp [q1]
      by_cases q2 : x2 = y2
      rotate_left 1
      · have HF := Lib.hid (HNE.out (fun g => q2 (by injection g)))
        have q2' : (x2 == y2) = false := by simp [q2]
        clear q0 q1 q2
        go_wp2_with fail
        go_quiet (fail)
        go_wp2_with fail
        go_ret
        exact ⟨ret_bool HF.out.symm, by first | exact ⟨_, rfl⟩ | (rw [World.drewN_drewN]; exact ⟨_, rfl⟩)⟩
      have q2' : (x2 == y2) = true := by simp [q2]
      by_cases q3 : x3 = y3
      rotate_left 1
      · have HF := Lib.hid (HNE.out (fun g => q3 (by injection g)))
        have q3' : (x3 == y3) = false := by simp [q3]
        clear q0 q1 q2 q3
        go_wp2_with fail
        go_quiet (fail)
        go_wp2_with fail
        go_ret
        exact ⟨ret_bool HF.out.symm, by first | exact ⟨_, rfl⟩ | (rw [World.drewN_drewN]; exact ⟨_, rfl⟩)⟩
      have q3' : (x3 == y3) = true := by simp [q3]
      by_cases q4 : x4 = y4
      rotate_left 1
      · have HF := Lib.hid (HNE.out (fun g => q4 (by injection g)))
        have q4' : (x4 == y4) = false := by simp [q4]
        clear q0 q1 q2 q3 q4
        go_wp2_with fail
        go_quiet (fail)
        go_wp2_with fail
        go_ret
        exact ⟨ret_bool HF.out.symm, by first | exact ⟨_, rfl⟩ | (rw [World.drewN_drewN]; exact ⟨_, rfl⟩)⟩
      have q4' : (x4 == y4) = true := by simp [q4]
      by_cases q5 : x5 = y5
      rotate_left 1
      · have HF := Lib.hid (HNE.out (fun g => q5 (by injection g)))
        have q5' : (x5 == y5) = false := by simp [q5]
        clear q0 q1 q2 q3 q4 q5
        go_wp2_with fail
        go_quiet (fail)
        go_wp2_with fail
        go_ret
        exact ⟨ret_bool HF.out.symm, by first | exact ⟨_, rfl⟩ | (rw [World.drewN_drewN]; exact ⟨_, rfl⟩)⟩
      have q5' : (x5 == y5) = true := by simp [q5]
      have HN' := Lib.hid (upto_succ HN.out (fun x' y' hx' hy' => by rw [HX.out] at hx'; rw [HY.out] at hy'; injection hx' with hx'; injection hy' with hy'; rw [← hx', ← hy']; exact ac_ext q0 q1 q2 q3 q4 q5))
      clear q0 q1 q2 q3 q4 q5
      go_wp2_with fail
      go_quiet (fail)
      go_wp2_with fail
      go_roundw
      case rel => exact ⟨k + 1, by omega, by go_num, HN', by first | exact ⟨_, rfl⟩ | (rw [World.drewN_drewN]; exact ⟨_, rfl⟩)⟩
      case measure => simp [intOf]; omega
    · obtain rfl : k = l.length := by omega
      have HF := Lib.hid (cB_true (acs_eq HL.out HN.out))
      go_wp2_with fail
      go_ret
      exact ⟨ret_bool HF.out.symm, n, rfl⟩
end Go.Proofs.Ytbjaejgechadpaa
