/-
  For the law VmTicks: machines that are none; a machine's Program; tompionref29's First and Fits; tompionref27.Same of one program.
-/
import Derived.Test.YtbjaejgechadpaaVmLaw
import Derived.Laws.StructEq
namespace Go.Proofs.Ytbjaejgechadpaa
open Go.RowKit Vf
attribute [local go_sem ↓] Go.wp_at_zero Go.wp_at_succ
def pg0 : Pg := ⟨[], [], 0, [], []⟩
theorem pg0_at (w : World) : PgAt w w.heap.size pg0 (.slice none 0 0) (.slice none 0 0) (.slice none 0 0) (.slice none 0 0) := ⟨SlV.nil, SlV.nil, wf_small (by decide), SlV.nil, SlV.nil⟩
set_option maxRecDepth 100000 in
theorem tick_nil (v1 v2 : Value) (w : World) :
    Calls Try.prog 19 #[.pointer none, v1, v2] w fun e w' => e = .returned (.tuple #[.slice none 0 0, .slice none 0 0, .int .i64 0, .int .i64 1]) ∧ w = w' := by
  go_enter Try.func19, Try.ntmps19
  go_wp2_with fail
  refine (is_nil _).mono ?_
  rintro e w' ⟨rfl, rfl⟩
  go_wp2_with fail
  refine bodyPost_ret (results_tmp4 rfl _ _ _) rfl ?_
  exact ⟨rfl, rfl⟩
theorem fits_nil (v : Value) (w : World) :
    Calls Try.prog 22 #[.pointer none, v] w fun e w' => e = .returned (.bool false) ∧ w = w' := by
  go_enter Try.func22, Try.ntmps22
  go_wp2_with fail
  refine (is_nil _).mono ?_
  rintro e w' ⟨rfl, rfl⟩
  go_wp2_with fail
  go_ret
  exact ⟨rfl, rfl⟩
theorem first_nil (w : World) :
    Calls Try.prog 21 #[.pointer none] w fun e w' => e = .returned (.slice none 0 0) ∧ w = w' := by
  go_enter Try.func21, Try.ntmps21
  go_wp2_with fail
  refine (is_nil _).mono ?_
  rintro e w' ⟨rfl, rfl⟩
  go_wp2_with fail
  go_ret
  exact ⟨rfl, rfl⟩
set_option maxRecDepth 100000 in
theorem program_nil (w : World) :
    Calls Try.prog 37 #[.pointer none] w fun e w' => e = .returned (pgV pg0 (.slice none 0 0) (.slice none 0 0) (.slice none 0 0) (.slice none 0 0)) ∧ Below w.heap.size w w' := by
  go_enter Try.func37, Try.ntmps37
  go_wp2_with fail
  refine (is_nil _).mono ?_
  rintro e w' ⟨rfl, rfl⟩
  go_wp2_with fail
  refine bodyPost_ret (v := .agg #[.slice none 0 0, .slice none 0 0, .int .i64 0, .slice none 0 0, .slice none 0 0]) (by simp [results, Try.results37, go_sem]) rfl ⟨rfl, (Below.refl _ _).alloc (Nat.le_refl _) _⟩
set_option maxRecDepth 100000 in
theorem program_any {w : World} {M : Nat} {p : Pg} {vi vo vc vd : Value} (h : MachAt w M p vi vo vc vd) :
    Calls Try.prog 37 #[.pointer (some ⟨M, 0, none⟩)] w fun e w' => e = .returned (pgV p vi vo vc vd) ∧ Below w.heap.size w w' := by
  have HI := Lib.hid (is_any (h.below ((Below.refl _ _).alloc (Nat.le_refl _) (.cells #[.slice none 0 0, .slice none 0 0, .int .i64 0, .slice none 0 0, .slice none 0 0] 26))))
  have hM := h.row.lt
  have q0 : w.cell? ⟨M, 0, none⟩ = some vi := h.row.cell 0
  have q1 : w.cell? ⟨M, 1, none⟩ = some vo := h.row.cell 1
  have q2 : w.cell? ⟨M, 2, none⟩ = some (.int .i64 p.regs) := h.row.cell 2
  have q3 : w.cell? ⟨M, 3, none⟩ = some vc := h.row.cell 3
  have q4 : w.cell? ⟨M, 4, none⟩ = some vd := h.row.cell 4
  obtain ⟨⟨Ai, ci, rfl, _⟩, ⟨Ao, co, rfl, _⟩, _, ⟨Ac, cc, rfl, _⟩, ⟨Ad, cd, rfl, _⟩⟩ := h.pg
  clear h
  go_enter Try.func37, Try.ntmps37
  go_wp2_with fail
  refine HI.out.mono ?_
  rintro e w' ⟨rfl, rfl⟩
  go_wp2_with fail
  refine bodyPost_ret (v := .agg #[.slice Ai p.ins.length ci, .slice Ao p.outs.length co, .int .i64 p.regs, .slice Ac p.cells.length cc, .slice Ad p.code.length cd]) (by simp [results, Try.results37, go_sem]) rfl ⟨rfl, (Below.refl _ _).alloc (Nat.le_refl _) _⟩
set_option maxRecDepth 100000 in
set_option maxHeartbeats 2000000 in
theorem rfirst_any (p : Pg) (vi vo vc vd : Value) (w : World) (h : PgAt w w.heap.size p vi vo vc vd) (hl : p.cells.length ≤ 100000) :
    Calls Try.prog 38 #[pgV p vi vo vc vd] w (FirstIs (firstZ p) w) := by
  obtain ⟨⟨Ai, ci, rfl, _⟩, ⟨Ao, co, rfl, _⟩, _, ⟨Ac, cc, rfl, lc, mc, sc⟩, ⟨Ad, cd, rfl, _⟩⟩ := h
  have mc' : cc ≤ 9223372036854775807 := by unfold maxLen at mc; omega
  have HF := Lib.hid (show (firstZ p).length = p.cells.length by simp [firstZ])
  obtain ⟨i0, hi0, hz0, hz1, hz2⟩ := info_parts info_int
  go_enter Try.func38, Try.ntmps38
  go_wp2_with fail
  go_loopw [3, 4] (fun v i wr => ∃ k : Nat, k ≤ p.cells.length ∧ i = .int .i64 k ∧ wr.ownsRow (w.heap.size + 1) 3 1 v k (ints ((firstZ p).take k)) ∧ Below (w.heap.size + 1) (w.alloc (.cells #[.slice Ai p.ins.length ci, .slice Ao p.outs.length co, .int .i64 p.regs, .slice Ac p.cells.length cc, .slice Ad p.code.length cd] 26)) wr) (fun _ i _ => p.cells.length - (intOf i).toNat)
  case atStart => exact ⟨0, Nat.zero_le _, rfl, ⟨by simp [ints], .inl ⟨rfl, rfl⟩⟩, by simpa using Below.refl _ _⟩
  case round =>
    obtain ⟨k, hk, rfl, hown, hbox⟩ := hrel
    obtain ⟨⟨q0, q1, q2, q3, q4⟩, hb, hsz⟩ := pgBox hbox
    by_cases hlt : k < p.cells.length
    · obtain ⟨b, off, c, rfl, hbb, hck, wc1, wc2, d0, d1⟩ := (sc.below hb).cell hlt
      have HS := Lib.hid (show ints ((firstZ p).take (k + 1)) = ints ((firstZ p).take k) ++ [.int .i64 c.2] by
        rw [take_snoc (x := c.2) (by simp [firstZ, hck]), ints_snoc])
      clear hck
      have hkl : (k : Int) < p.cells.length := by omega
      generalize ints ((firstZ p).take k) = L at *
      go_wp2_with (at_builtin; refine wpList_append_own _ rfl _ _ 22 rfl (w.heap.size + 1) 3 i0 (.int .i64 0) 1 8 Try.underlying22 hi0 hz0 hz1 hz2 rfl (by decide) _ _ _ rfl (hown.alloc _) ⟨wr.heap.size, 0, none⟩ 1 1 [.int .i64 c.2] rfl rfl ?c1 ?c2 ?c3 ?c4 ?c5 ?_)
      case c1 => exact cell_one _ _ _
      case c2 => intro u hu; simp at hu; subst hu; rfl
      case c3 => unfold maxLen; omega
      case c4 => omega
      case c5 => simp; omega
      intro v' w1 hown1 hgrow _
      have HB := Lib.hid (below_own (hbox.alloc hsz _) (hown.alloc _) hgrow (by simp; omega))
      have HO := Lib.hid hown1
      clear hown hown1 hgrow
      go_wp2_with fail
      go_roundw
      case rel => exact ⟨k + 1, by omega, by go_num, by rw [HS.out]; exact HO.out, HB.out⟩
      case measure => simp [intOf]; omega
    · obtain rfl : k = p.cells.length := by omega
      have HO : Hid (wr.ownsRow w.heap.size 3 1 u3 (firstZ p).length (ints (firstZ p))) := by
        rw [HF.out]
        have := hown
        rw [← HF.out, List.take_length, HF.out] at this
        exact own_base this (by omega)
      clear hown
      go_wp2_with fail
      go_ret
      exact ⟨_, rfl, HO.out, hb⟩
def rAt (p : Pg) (cells : List Int) (j : Nat) : Prop := ∀ c v, p.cells[j]? = some c → cells[j]? = some v → valueOk c.1 v
theorem rAt_m {p : Pg} {cells : List Int} (hl : cells.length = p.cells.length) (h : ∀ j, j < cells.length → rAt p cells j) : machFits p cells := ⟨hl, fun j hj h2 => by
  have hc : p.cells[j]? = some p.cells[j] := List.getElem?_eq_getElem hj
  have hv : cells[j]? = some (cells[j]'(by omega)) := List.getElem?_eq_getElem (by omega)
  have := h j (by omega) _ _ hc hv
  rw [types_some hc] at h2
  rw [getI_some hv]
  unfold valueOk at this
  omega⟩
theorem m_rAt {p : Pg} (hm : mayOk p) {cells : List Int} {k : Nat} {c : Int × Int} {v : Int} (hc : p.cells[k]? = some c) (hv : cells[k]? = some v) (h : ¬ valueOk c.1 v) : ¬ machFits p cells := fun g => h (by
  have h1 := hm.1 c (List.mem_of_getElem? hc)
  have h2 := g.2 k (List.getElem?_eq_some_iff.1 hc).1
  rw [types_some hc, getI_some hv] at h2
  unfold valueOk at h1 ⊢
  omega)
set_option maxRecDepth 100000 in
set_option maxHeartbeats 2000000 in
theorem rfits29_any (p : Pg) (hm : mayOk p) (vi vo vc vd : Value) (w : World) (h : PgAt w w.heap.size p vi vo vc vd) (cells : List Int) (v : Value) (hv : SlV w w.heap.size 1 isInt v cells) :
    Calls Try.prog 39 #[pgV p vi vo vc vd, v] w fun e w' => e = .returned (.bool (cB (machFits p cells))) ∧ Below w.heap.size w w' := by
  obtain ⟨⟨Ai, ci, rfl, _⟩, ⟨Ao, co, rfl, _⟩, _, ⟨Ac, cc, rfl, lc, mc, sc⟩, ⟨Ad, cd, rfl, _⟩⟩ := h
  obtain ⟨Av, cv, rfl, lv, mv, sv⟩ := hv
  have HM := Lib.hid hm
  clear hm
  have mc' : cc ≤ 9223372036854775807 := by unfold maxLen at mc; omega
  have mv' : cv ≤ 9223372036854775807 := by unfold maxLen at mv; omega
  have b0 : Below w.heap.size w (w.alloc (.cells #[.slice Ai p.ins.length ci, .slice Ao p.outs.length co, .int .i64 p.regs, .slice Ac p.cells.length cc, .slice Ad p.code.length cd] 26)) := (Below.refl _ _).alloc (Nat.le_refl _) _
  by_cases hl : cells.length = p.cells.length
  rotate_left 1
  · have HF := Lib.hid (cB_false (fun g : machFits p cells => hl g.1))
    have hl' : ((cells.length : Int) != (p.cells.length : Int)) = true := by rw [bne_iff_ne]; omega
    clear hl
    go_enter Try.func39, Try.ntmps39
    go_wp2_with fail
    go_ret
    exact ⟨ret_bool HF.out.symm, b0⟩
  have hl' : ((cells.length : Int) != (p.cells.length : Int)) = false := by rw [bne_eq_false_iff_eq]; omega
  have HL := Lib.hid hl
  have hle1 : cells.length ≤ p.cells.length := by omega
  clear hl b0
  go_enter Try.func39, Try.ntmps39
  go_wp2_with fail
  go_loopw [5] (fun i wr => ∃ k : Nat, k ≤ cells.length ∧ i = .int .i64 k ∧ Hid (∀ j, j < k → rAt p cells j) ∧ Below (w.heap.size + 1) (w.alloc (.cells #[.slice Ai p.ins.length ci, .slice Ao p.outs.length co, .int .i64 p.regs, .slice Ac p.cells.length cc, .slice Ad p.code.length cd] 26)) wr) (fun i _ => cells.length - (intOf i).toNat)
  case atStart => exact ⟨0, Nat.zero_le _, rfl, fun j h => absurd h (by omega), by simpa using Below.refl _ _⟩
  case round =>
    obtain ⟨k, hk, rfl, HN, hbox⟩ := hrel
    obtain ⟨⟨q0, q1, q2, q3, q4⟩, hb, hsz⟩ := pgBox hbox
    by_cases hlt : k < cells.length
    · obtain ⟨b, off, c, rfl, hbb, hck, wc1, wc2, d0, d1⟩ := (sc.below hb).cell (show k < p.cells.length by omega)
      obtain ⟨b2, off2, u, rfl, hbb2, huk, wu, e0⟩ := (sv.below hb).int hlt
      have HCk := Lib.hid hck
      have HUk := Lib.hid huk
      clear hck huk
      have hk0 : (0 : Int) ≤ (k : Int) := by omega
      have hk1 : (k : Int) < cells.length := by omega
      have hk2 : (k : Int) < p.cells.length := by omega
      go_wp2_with fail
      go_quiet ((go_at_call 80; exact Calls.quiet_of_same (rvalue_any _ _ _)))
      generalize hV3 : cB (valueOk c.1 u) = V at *
      have HV3 := Lib.hid hV3
      clear hV3
      cases V
      · have HF := Lib.hid (cB_false (m_rAt HM.out HCk.out HUk.out (cB_not.1 HV3.out)))
        go_wp2_with fail
        go_ret
        exact ⟨ret_bool HF.out.symm, below_drewN' hb _⟩
      · have HN' := Lib.hid (upto_succ HN.out (show rAt p cells k from fun c' v' hc' hv' => by rw [HCk.out] at hc'; rw [HUk.out] at hv'; injection hc' with hc'; injection hv' with hv'; rw [← hc', ← hv']; exact cB_iff.1 HV3.out))
        go_wp2_with fail
        go_roundw
        case rel => exact ⟨k + 1, by omega, by go_num, HN', below_drewN' hbox _⟩
        case measure => simp [intOf]; omega
    · obtain rfl : k = cells.length := by omega
      have HF := Lib.hid (cB_true (rAt_m HL.out HN.out))
      go_wp2_with fail
      go_ret
      exact ⟨ret_bool HF.out.symm, hb⟩
end Go.Proofs.Ytbjaejgechadpaa
