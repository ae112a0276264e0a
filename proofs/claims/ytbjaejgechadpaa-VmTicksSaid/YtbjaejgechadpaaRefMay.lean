/-
  The contracts of tompionref04.Right and of tompionref27's Value, Has, May.
-/
import Derived.Test.YtbjaejgechadpaaPgMay
namespace Go.Proofs.Ytbjaejgechadpaa
open Go.RowKit Vf

set_option maxHeartbeats 1000000 in
theorem rref04_any (l : List Int) (A : Option Addr) (cap B : Nat) (w : World) (hcap : l.length ≤ cap) (hmax : cap ≤ maxLen) (hl : Sl w B 1 isInt A l) :
    Calls Try.prog 60 #[.slice A l.length cap] w fun e w' => e = .returned (.bool (cB (typesOk l))) ∧ w = w' := by
  unfold maxLen at hmax
  go_enter Try.func60, Try.ntmps60
  go_wp2_with fail
  go_loop [3] (fun i => ∃ k : Nat, k ≤ l.length ∧ i = .int .i64 k ∧ Hid (∀ j, j < k → ∀ t, l[j]? = some t → t = 1 ∨ t = 2)) (fun i => l.length - (intOf i).toNat)
  case atStart => exact ⟨0, Nat.zero_le _, rfl, fun j h => absurd h (by omega)⟩
  case round =>
    obtain ⟨k, hk, rfl, HN⟩ := hrel
    by_cases hlt : k < l.length
    · obtain ⟨b, off, t, rfl, hb, hxk, hwf, hc⟩ := hl.int hlt
      have HK := Lib.hid hxk
      clear hxk
      by_cases h1 : t = 1
      · have h1' : (t != 1) = false := by simp [h1]
        have HN' := Lib.hid (upto_succ HN.out (fun y hy => by rw [HK.out] at hy; injection hy with hy; rw [← hy]; exact .inl h1))
        clear h1
        go_wp2_with fail
        go_round
        case rel => exact ⟨k + 1, by omega, by go_num, HN'⟩
        case measure => simp [intOf]; omega
      · have h1' : (t != 1) = true := by simp [h1]
        by_cases h2 : t = 2
        · have h2' : (t != 2) = false := by simp [h2]
          have HN' := Lib.hid (upto_succ HN.out (fun y hy => by rw [HK.out] at hy; injection hy with hy; rw [← hy]; exact .inr h2))
          clear h1 h2
          go_wp2_with fail
          go_round
          case rel => exact ⟨k + 1, by omega, by go_num, HN'⟩
          case measure => simp [intOf]; omega
        · have h2' : (t != 2) = true := by simp [h2]
          have HF := Lib.hid (cB_false (types_no HK.out h1 h2))
          clear h1 h2
          go_wp2_with fail
          go_ret
          exact ⟨ret_bool HF.out.symm, rfl⟩
    · obtain rfl : k = l.length := by omega
      have HF := Lib.hid (cB_congr (types_yes HN.out))
      go_wp2_with fail
      all_goals
        go_ret
        refine ⟨ret_bool ?_, rfl⟩
        rw [HF.out, Bool.eq_iff_iff, cB_iff]
        simp
        try omega
theorem rvalue_any (kind n : Int) (w : World) :
    Calls Try.prog 80 #[.int .i64 kind, .int .i64 n] w fun e w' => e = .returned (.bool (cB (valueOk kind n))) ∧ w' = w := by
  go_enter Try.func80, Try.ntmps80
  go_wp2
  all_goals
    go_ret
    refine ⟨ret_bool ?_, rfl⟩
    rw [Bool.eq_iff_iff, cB_iff]
    simp [valueOk]
    omega
def hasN (op : Int) : Int := if op = 1 ∨ op = 2 ∨ op = 21 ∨ (28 ≤ op ∧ op ≤ 32) then 1 else if op = 3 ∨ op = 5 ∨ op = 6 then 2 else if 7 ≤ op ∧ op ≤ 20 then 3 else if op = 27 then 3 else 0
def hasKB (op : Int) : Bool := decide ((op = 1 ∨ op = 2 ∨ op = 21 ∨ (28 ≤ op ∧ op ≤ 32)) ∨ op = 27)
theorem ret_ib {a b : Int} {c d : Bool} (h : a = b) (h' : c = d) : Ending.returned (.tuple #[.int .i64 a, .bool c]) = .returned (.tuple #[.int .i64 b, .bool d]) := by rw [h, h']
set_option maxHeartbeats 2000000 in
theorem rhas_any (op : Int) (w : World) :
    Calls Try.prog 92 #[.int .i64 op] w fun e w' => e = .returned (.tuple #[.int .i64 (hasN op), .bool (hasKB op)]) ∧ w = w' := by
  go_enter Try.func92, Try.ntmps92
  go_wp2
  all_goals
    go_ret2
    refine ⟨ret_ib ?_ ?_, rfl⟩
    · (try simp only [beq_iff_eq, beq_eq_false_iff_ne] at *)
      unfold hasN
      repeat' split
      all_goals omega
    · (try simp only [beq_iff_eq, beq_eq_false_iff_ne] at *)
      unfold hasKB
      simp
      try omega
theorem has_cases (op : Int) : (hasN op = 0 ∧ hasKB op = false) ∨ (hasN op = 1 ∧ hasKB op = true) ∨ (hasN op = 2 ∧ hasKB op = false) ∨ (hasN op = 3 ∧ hasKB op = false) ∨ (hasN op = 3 ∧ hasKB op = true) := by
  unfold hasN hasKB
  simp only [decide_eq_true_eq, decide_eq_false_iff_not]
  repeat' split
  all_goals omega
theorem instrOk_has (x : In5) : instrOk x ↔ hasN x.op ≠ 0 ∧ 0 ≤ x.a ∧ 0 ≤ x.b ∧ 0 ≤ x.c ∧ (hasN x.op < 2 → x.b = 0) ∧ (hasN x.op < 3 → x.c = 0) ∧ (hasKB x.op = false → x.k = 0) := by
  unfold instrOk hasA hasAB hasABC hasN hasKB
  simp only [decide_eq_false_iff_not]
  by_cases h1 : x.op = 1 ∨ x.op = 2 ∨ x.op = 21 ∨ (28 ≤ x.op ∧ x.op ≤ 32)
  · rw [if_pos h1]; omega
  · rw [if_neg h1]
    by_cases h2 : x.op = 3 ∨ x.op = 5 ∨ x.op = 6
    · rw [if_pos h2]; omega
    · rw [if_neg h2]
      by_cases h3 : 7 ≤ x.op ∧ x.op ≤ 20
      · rw [if_pos h3]; omega
      · rw [if_neg h3]
        by_cases h4 : x.op = 27
        · rw [if_pos h4]; omega
        · rw [if_neg h4]; omega
theorem below_alloc {B : Nat} {a w : World} (h : Below B a w) (hB : B ≤ w.heap.size) (o : Obj) : Below B a (w.alloc o) := h.alloc hB o
set_option maxRecDepth 100000 in
set_option maxHeartbeats 8000000 in
theorem rmay_any (p : Pg) (vi vo vc vd : Value) (w : World) (h : PgAt w w.heap.size p vi vo vc vd) :
    Calls Try.prog 49 #[pgV p vi vo vc vd] w fun e w' => e = .returned (.bool (cB (mayOk p))) ∧ Below w.heap.size w w' := by
  obtain ⟨⟨Ai, ci, rfl, li, mi, si⟩, ⟨Ao, co, rfl, lo, mo, so⟩, hreg, ⟨Ac, cc, rfl, lc, mc, sc⟩, ⟨Ad, cd, rfl, ld, md, sd⟩⟩ := h
  have mc' : cc ≤ 9223372036854775807 := by unfold maxLen at mc; omega
  have md' : cd ≤ 9223372036854775807 := by unfold maxLen at md; omega
  have b0 : Below w.heap.size w (w.alloc (.cells #[.slice Ai p.ins.length ci, .slice Ao p.outs.length co, .int .i64 p.regs, .slice Ac p.cells.length cc, .slice Ad p.code.length cd] 26)) := (Below.refl _ _).alloc (Nat.le_refl _) _
  go_enter Try.func49, Try.ntmps49
  go_wp2_with fail
  refine (rref04_any p.ins Ai ci _ _ li mi (si.below b0)).mono ?_
  rintro e w' ⟨rfl, rfl⟩
  generalize hV : cB (typesOk p.ins) = V at *
  have HV := Lib.hid hV
  clear hV
  cases V
  · have HF := Lib.hid (cB_false (fun h : mayOk p => cB_not.1 HV.out h.2.2.1))
    go_wp2_with fail
    go_ret
    exact ⟨ret_bool HF.out.symm, b0⟩
  go_wp2_with fail
  refine (rref04_any p.outs Ao co _ _ lo mo (so.below b0)).mono ?_
  rintro e w' ⟨rfl, rfl⟩
  generalize hV2 : cB (typesOk p.outs) = V2 at *
  have HV2 := Lib.hid hV2
  clear hV2
  cases V2
  · have HF := Lib.hid (cB_false (fun h : mayOk p => cB_not.1 HV2.out h.2.2.2.1))
    go_wp2_with fail
    go_ret
    exact ⟨ret_bool HF.out.symm, b0⟩
  by_cases hR : 0 ≤ p.regs ∧ p.regs ≤ 1600 ∧ p.cells.length ≤ 60 ∧ p.code.length ≤ 2048
  rotate_left 1
  · have HF := Lib.hid (cB_false (fun h : mayOk p => hR h.2.2.2.2))
    have HR := Lib.hid hR
    clear hR
    go_wp2_with fail
    all_goals first | (go_ret; exact ⟨ret_bool HF.out.symm, b0⟩) | exact absurd HR.out (by have := HR.out; omega)
  obtain ⟨hr0, hr1, hcl, hdl⟩ := hR
  go_wp2_with fail
  go_loopw [3] (fun i wr => ∃ k : Nat, k ≤ p.cells.length ∧ i = .int .i64 k ∧ Hid (∀ j, j < k → ∀ c, p.cells[j]? = some c → valueOk c.1 c.2) ∧ Below (w.heap.size + 1) (w.alloc (.cells #[.slice Ai p.ins.length ci, .slice Ao p.outs.length co, .int .i64 p.regs, .slice Ac p.cells.length cc, .slice Ad p.code.length cd] 26)) wr) (fun i _ => p.cells.length - (intOf i).toNat)
  case atStart => exact ⟨0, Nat.zero_le _, rfl, fun j h => absurd h (by omega), by simpa using Below.refl _ _⟩
  case round =>
    obtain ⟨k, hk, rfl, HN, hbox⟩ := hrel
    obtain ⟨⟨q0, q1, q2, q3, q4⟩, hbel, hsz⟩ := pgBox hbox
    by_cases hlt : k < p.cells.length
    · obtain ⟨b, off, c, rfl, hb, hxk, hw1, hw2, c0, c1⟩ := (sc.below hbel).cell hlt
      have HK := Lib.hid hxk
      clear hxk
      have hki : (0 : Int) ≤ (k : Int) := by omega
      have hkl : (k : Int) < (p.cells.length : Int) := by omega
      go_wp2_with fail
      go_quiet ((go_at_call 80; exact Calls.quiet_of_same (rvalue_any _ _ _)))
      generalize hV3 : cB (valueOk c.1 c.2) = V at *
      have HV3 := Lib.hid hV3
      clear hV3
      cases V
      · have HF := Lib.hid (cB_false (may_cells HK.out (cB_not.1 HV3.out)))
        go_wp2_with fail
        go_ret
        exact ⟨ret_bool HF.out.symm, below_drewN' hbel _⟩
      · have HN' := Lib.hid (upto_succ HN.out (fun y hy => by rw [HK.out] at hy; injection hy with hy; rw [← hy]; exact cB_iff.1 HV3.out))
        go_wp2_with fail
        go_roundw
        case rel => exact ⟨k + 1, by omega, by go_num, HN', below_drewN' hbox _⟩
        case measure => simp [intOf]; omega
    · obtain rfl : k = p.cells.length := by omega
      have HC := Lib.hid HN.out
      clear HN hk hlt
      go_wp2_with fail
      go_loopw [4] (fun i wr => ∃ k : Nat, k ≤ p.code.length ∧ i = .int .i64 k ∧ Hid (∀ j, j < k → ∀ x, p.code[j]? = some x → instrOk x) ∧ Below (w.heap.size + 1) (w.alloc (.cells #[.slice Ai p.ins.length ci, .slice Ao p.outs.length co, .int .i64 p.regs, .slice Ac p.cells.length cc, .slice Ad p.code.length cd] 26)) wr) (fun i _ => p.code.length - (intOf i).toNat)
      case atStart => exact ⟨0, Nat.zero_le _, rfl, fun j h => absurd h (by omega), hbox⟩
      case round =>
        clear hbox hbel hsz q0 q1 q2 q3 q4
        obtain ⟨k, hk, rfl, HN, hbox⟩ := hrel
        obtain ⟨⟨q0, q1, q2, q3, q4⟩, hbel, hsz⟩ := pgBox hbox
        by_cases hlt : k < p.code.length
        · obtain ⟨b, off, x, rfl, hb, hxk, hok, c0, c1, c2, c3, c4⟩ := (sd.below hbel).in5 hlt
          have HK := Lib.hid hxk
          clear hxk
          have hA := hbel.alloc (by omega) (.cells #[.int .i64 x.op, .int .i64 x.a, .int .i64 x.b, .int .i64 x.c, .int .i64 x.k] 30)
          have hA' := hbox.alloc (by omega) (.cells #[.int .i64 x.op, .int .i64 x.a, .int .i64 x.b, .int .i64 x.c, .int .i64 x.k] 30)
          go_wp2_with fail
          refine (rhas_any x.op _).mono ?_
          rintro e w' ⟨rfl, rfl⟩
          have bX := Row.new wr #[.int .i64 x.op, .int .i64 x.a, .int .i64 x.b, .int .i64 x.c, .int .i64 x.k] 30
          generalize wr.alloc (.cells #[.int .i64 x.op, .int .i64 x.a, .int .i64 x.b, .int .i64 x.c, .int .i64 x.k] 30) = W at *
          have x0 := bX.cell 0
          have x1 := bX.cell 1
          have x2 := bX.cell 2
          have x3 := bX.cell 3
          have x4 := bX.cell 4
          simp only [List.getElem?_toArray, List.getElem?_cons_zero, List.getElem?_cons_succ] at x0 x1 x2 x3 x4
          clear bX c0 c1 c2 c3 c4 q0 q1 q2 q3 q4
          have HE := Lib.hid (instrOk_has x)
          have hcs := has_cases x.op
          generalize hasN x.op = N at *
          generalize hasKB x.op = Kb at *
          by_cases hI : instrOk x
          · obtain ⟨n0, a0, b0', c0', e1, e2, e3⟩ := HE.out.1 hI
            have HN' := Lib.hid (upto_succ HN.out (fun y hy => by rw [HK.out] at hy; injection hy with hy; rw [← hy]; exact hI))
            clear hI HE
            rcases hcs with ⟨rfl, rfl⟩ | ⟨rfl, rfl⟩ | ⟨rfl, rfl⟩ | ⟨rfl, rfl⟩ | ⟨rfl, rfl⟩
            · exact absurd rfl n0
            · have hb0 : (x.b != 0) = false := by simp [e1 (by omega)]
              have hc0 : (x.c != 0) = false := by simp [e2 (by omega)]
              clear e1 e2 e3 n0
              go_wp2_with fail
              go_roundw
              case rel => exact ⟨k + 1, by omega, by go_num, HN', hA'⟩
              case measure => simp [intOf]; omega
            · have hc0 : (x.c != 0) = false := by simp [e2 (by omega)]
              have hk0 : (x.k != 0) = false := by simp [e3 rfl]
              clear e1 e2 e3 n0
              go_wp2_with fail
              go_roundw
              case rel => exact ⟨k + 1, by omega, by go_num, HN', hA'⟩
              case measure => simp [intOf]; omega
            · have hk0 : (x.k != 0) = false := by simp [e3 rfl]
              clear e1 e2 e3 n0
              go_wp2_with fail
              go_roundw
              case rel => exact ⟨k + 1, by omega, by go_num, HN', hA'⟩
              case measure => simp [intOf]; omega
            · clear e1 e2 e3 n0
              go_wp2_with fail
              go_roundw
              case rel => exact ⟨k + 1, by omega, by go_num, HN', hA'⟩
              case measure => simp [intOf]; omega
          · have HF := Lib.hid (cB_false (may_code HK.out hI))
            have HI := Lib.hid hI
            clear hI
            have hneg : N = 0 ∨ x.a < 0 ∨ x.b < 0 ∨ x.c < 0 ∨ (N < 2 ∧ x.b ≠ 0) ∨ (N < 3 ∧ x.c ≠ 0) ∨ (Kb = false ∧ x.k ≠ 0) := by
              refine Classical.byContradiction fun hc => HI.out (HE.out.2 ?_)
              simp only [not_or, not_and, Decidable.not_not] at hc
              obtain ⟨d1, d2, d3, d4, d5, d6, d7⟩ := hc
              exact ⟨d1, by omega, by omega, by omega, d5, d6, d7⟩
            clear hcs HE HI
            rcases hneg with rfl | hx | hx | hx | ⟨hn, hx⟩ | ⟨hn, hx⟩ | ⟨rfl, hx⟩
            · go_wp2_with fail
              all_goals (go_ret; exact ⟨ret_bool HF.out.symm, hA⟩)
            · go_wp2_with fail
              all_goals (go_ret; exact ⟨ret_bool HF.out.symm, hA⟩)
            · go_wp2_with fail
              all_goals (go_ret; exact ⟨ret_bool HF.out.symm, hA⟩)
            · go_wp2_with fail
              all_goals (go_ret; exact ⟨ret_bool HF.out.symm, hA⟩)
            · have hx' : (x.b != 0) = true := by simp [hx]
              clear hx
              go_wp2_with fail
              all_goals (go_ret; exact ⟨ret_bool HF.out.symm, hA⟩)
            · have hx' : (x.c != 0) = true := by simp [hx]
              clear hx
              go_wp2_with fail
              all_goals (go_ret; exact ⟨ret_bool HF.out.symm, hA⟩)
            · have hx' : (x.k != 0) = true := by simp [hx]
              clear hx
              go_wp2_with fail
              all_goals (go_ret; exact ⟨ret_bool HF.out.symm, hA⟩)
        · obtain rfl : k = p.code.length := by omega
          have HM := Lib.hid (may_rest HC.out HN.out)
          clear HC HN
          go_wp2_with fail
          go_ret
          exact ⟨ret_bool (cB_true (HM.out.2 ⟨cB_iff.1 HV.out, cB_iff.1 HV2.out, hr0, hr1, hcl, hdl⟩)).symm, hbel⟩
end Go.Proofs.Ytbjaejgechadpaa
