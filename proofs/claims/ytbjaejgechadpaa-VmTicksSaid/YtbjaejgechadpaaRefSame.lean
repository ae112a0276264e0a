/-
  The contract of tompionref27.Same, of one program that lies in memory twice.
-/
import Derived.Test.YtbjaejgechadpaaRefVmA
namespace Go.Proofs.Ytbjaejgechadpaa
open Go.RowKit Vf
attribute [local go_sem ↓] Go.wp_at_zero Go.wp_at_succ
theorem ints_same (l : List Int) (v1 v2 : Value) (B : Nat) (w : World) (h1 : SlV w B 1 isInt v1 l) (h2 : SlV w B 1 isInt v2 l) :
    Calls Try.prog 20 #[v1, v2] w fun e w' => e = .returned (.bool true) ∧ ∃ n, w' = w.drewN n := by
  have := rints_any l l v1 v2 B w h1 h2
  rwa [cB_true rfl] at this
set_option maxRecDepth 100000 in
set_option maxHeartbeats 4000000 in
theorem rsame_any (p : Pg) (vi vo vc vd ui uo uc ud : Value) (w : World) (h : PgAt w w.heap.size p vi vo vc vd) (h' : PgAt w w.heap.size p ui uo uc ud) :
    Calls Try.prog 36 #[pgV p vi vo vc vd, pgV p ui uo uc ud] w fun e w' => e = .returned (.bool true) ∧ Below w.heap.size w w' := by
  have b0 := ((Below.refl w.heap.size w).alloc (Nat.le_refl _) (.cells #[vi, vo, .int .i64 p.regs, vc, vd] 26)).alloc (by simp) (.cells #[ui, uo, .int .i64 p.regs, uc, ud] 26)
  have rP := (Row.new w #[vi, vo, .int .i64 p.regs, vc, vd] 26).alloc (.cells #[ui, uo, .int .i64 p.regs, uc, ud] 26)
  have rQ := rowNew2 w (.cells #[vi, vo, .int .i64 p.regs, vc, vd] 26) #[ui, uo, .int .i64 p.regs, uc, ud] 26
  have g := h.below b0
  have g' := h'.below b0
  obtain ⟨⟨Ai, ci, rfl, li, mi, si⟩, ⟨Ao, co, rfl, lo, mo, so⟩, _, ⟨Ac, cc, rfl, lc, mc, sc⟩, ⟨Ad, cd, rfl, ld, md, sd⟩⟩ := id g
  obtain ⟨⟨Bi, ei, rfl, _, _, ti⟩, ⟨Bo, eo, rfl, _, _, to_⟩, _, ⟨Bc, ec, rfl, kc, nc, tc⟩, ⟨Bd, ed, rfl, kd, nd, td⟩⟩ := id g'
  have mc' : cc ≤ 9223372036854775807 := by unfold maxLen at mc; omega
  have md' : cd ≤ 9223372036854775807 := by unfold maxLen at md; omega
  have nc' : ec ≤ 9223372036854775807 := by unfold maxLen at nc; omega
  have nd' : ed ≤ 9223372036854775807 := by unfold maxLen at nd; omega
  have HI := Lib.hid g.ins
  have HO := Lib.hid g.outs
  have HI' := Lib.hid g'.ins
  have HO' := Lib.hid g'.outs
  clear h h' g g'
  go_enter Try.func36, Try.ntmps36
  go_upto_region 1 with (fail)
  generalize (w.alloc (.cells #[.slice Ai p.ins.length ci, .slice Ao p.outs.length co, .int .i64 p.regs, .slice Ac p.cells.length cc, .slice Ad p.code.length cd] 26)).alloc (.cells #[.slice Bi p.ins.length ei, .slice Bo p.outs.length eo, .int .i64 p.regs, .slice Bc p.cells.length ec, .slice Bd p.code.length ed] 26) = W at *
  have q0 := rP.cell 0
  have q1 := rP.cell 1
  have q2 := rP.cell 2
  have q3 := rP.cell 3
  have q4 := rP.cell 4
  have r0 := rQ.cell 0
  have r1 := rQ.cell 1
  have r2 := rQ.cell 2
  have r3 := rQ.cell 3
  have r4 := rQ.cell 4
  simp only [List.getElem?_toArray, List.getElem?_cons_zero, List.getElem?_cons_succ] at q0 q1 q2 q3 q4 r0 r1 r2 r3 r4
  clear rP rQ
  go_wp2_with fail
  refine (ints_same p.ins _ _ _ _ HI.out HI'.out).mono ?_
  rintro e w1 ⟨rfl, n1, rfl⟩
  go_wp2_with fail
  refine (ints_same p.outs _ _ _ _ (HO.out.below (below_drewN' (Below.refl _ _) n1)) (HO'.out.below (below_drewN' (Below.refl _ _) n1))).mono ?_
  rintro e w2 ⟨rfl, n2, rfl⟩
  go_wp2_with fail
  go_loopw [5] (fun i wr => ∃ (k n : Nat), k ≤ p.cells.length ∧ i = .int .i64 k ∧ wr = W.drewN n) (fun i _ => p.cells.length - (intOf i).toNat)
  case atStart => exact ⟨0, _, Nat.zero_le _, rfl, by first | rfl | exact World.drewN_drewN _ _ _⟩
  case round =>
    obtain ⟨k, n, hk, rfl, rfl⟩ := hrel
    by_cases hlt : k < p.cells.length
    · obtain ⟨b, off, c, rfl, hbb, hck, wc1, wc2, d0, d1⟩ := sc.cell hlt
      obtain ⟨b', off', c', rfl, hbb', hck', wc1', wc2', d0', d1'⟩ := tc.cell hlt
      obtain rfl : c' = c := by rw [hck] at hck'; injection hck' with h; exact h.symm
      clear hck hck'
      have hk0 : (0 : Int) ≤ (k : Int) := by omega
      have hk1 : (k : Int) < p.cells.length := by omega
      go_wp2_with fail
      go_quiet (fail)
      go_wp2_with fail
      go_roundw
      case rel => exact ⟨k + 1, _, by omega, by go_num, by first | rfl | exact World.drewN_drewN _ _ _⟩
      case measure => simp [intOf]; omega
    · go_wp2_with fail
      go_loopw [6] (fun i wr => ∃ (k n : Nat), k ≤ p.code.length ∧ i = .int .i64 k ∧ wr = W.drewN n) (fun i _ => p.code.length - (intOf i).toNat)
      case atStart => exact ⟨0, _, Nat.zero_le _, rfl, rfl⟩
      case round =>
        obtain ⟨k, n, hk, rfl, rfl⟩ := hrel
        by_cases hlt : k < p.code.length
        · obtain ⟨b, off, c, rfl, hbb, hck, _, d0, d1, d2, d3, d4⟩ := sd.in5 hlt
          obtain ⟨b', off', c', rfl, hbb', hck', _, d0', d1', d2', d3', d4'⟩ := td.in5 hlt
          obtain rfl : c' = c := by rw [hck] at hck'; injection hck' with h; exact h.symm
          clear hck hck'
          have hk0 : (0 : Int) ≤ (k : Int) := by omega
          have hk1 : (k : Int) < p.code.length := by omega
          go_wp2_with fail
          go_quiet (fail)
          go_wp2_with fail
          go_roundw
          case rel => exact ⟨k + 1, _, by omega, by go_num, by first | rfl | exact World.drewN_drewN _ _ _⟩
          case measure => simp [intOf]; omega
        · go_wp2_with fail
          go_ret
          exact ⟨rfl, below_drewN' b0 _⟩
end Go.Proofs.Ytbjaejgechadpaa
