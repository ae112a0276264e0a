/-
  Which programs may be: the contract of code.May.
-/
import Derived.Test.YtbjaejgechadpaaPgMem
namespace Go.Proofs.Ytbjaejgechadpaa
open Go.RowKit Vf

/-- a program by value, boxed: its cells stay -/
theorem pgBox {w wr : World} {p : Pg} {vi vo vc vd : Value} (hb : Below (w.heap.size + 1) (w.alloc (.cells #[vi, vo, .int .i64 p.regs, vc, vd] 26)) wr) :
    (wr.cell? ⟨w.heap.size, 0, none⟩ = some vi ∧ wr.cell? ⟨w.heap.size, 1, none⟩ = some vo ∧ wr.cell? ⟨w.heap.size, 2, none⟩ = some (.int .i64 p.regs) ∧ wr.cell? ⟨w.heap.size, 3, none⟩ = some vc ∧ wr.cell? ⟨w.heap.size, 4, none⟩ = some vd) ∧
    Below w.heap.size w wr ∧ w.heap.size + 1 ≤ wr.heap.size := by
  have hR := (Row.new w #[vi, vo, .int .i64 p.regs, vc, vd] 26).below hb (Nat.lt_succ_self _)
  exact ⟨⟨hR.cell 0, hR.cell 1, hR.cell 2, hR.cell 3, hR.cell 4⟩, ((Below.refl _ _).alloc (Nat.le_refl _) _).trans (hb.mono (Nat.le_succ _)), by have := hb.size; simpa using this⟩
theorem may_cells {p : Pg} {k : Nat} {c : Int × Int} (h : p.cells[k]? = some c) (hc : ¬ valueOk c.1 c.2) : ¬ mayOk p := fun hm => hc (hm.1 c (List.mem_of_getElem? h))
theorem may_code {p : Pg} {k : Nat} {x : In5} (h : p.code[k]? = some x) (hc : ¬ instrOk x) : ¬ mayOk p := fun hm => hc (hm.2.1 x (List.mem_of_getElem? h))
theorem may_rest {p : Pg} (h1 : ∀ j, j < p.cells.length → ∀ c, p.cells[j]? = some c → valueOk c.1 c.2) (h2 : ∀ j, j < p.code.length → ∀ x, p.code[j]? = some x → instrOk x) :
    mayOk p ↔ typesOk p.ins ∧ typesOk p.outs ∧ 0 ≤ p.regs ∧ p.regs ≤ 1600 ∧ p.cells.length ≤ 60 ∧ p.code.length ≤ 2048 := by
  unfold mayOk
  refine ⟨fun h => h.2.2, fun h => ⟨fun c hc => ?_, fun x hx => ?_, h⟩⟩
  · obtain ⟨j, hj⟩ := List.getElem?_of_mem hc
    exact h1 j (List.getElem?_eq_some_iff.1 hj).1 c hj
  · obtain ⟨j, hj⟩ := List.getElem?_of_mem hx
    exact h2 j (List.getElem?_eq_some_iff.1 hj).1 x hj
set_option maxRecDepth 100000 in
set_option maxHeartbeats 4000000 in
theorem may_any (p : Pg) (vi vo vc vd : Value) (w : World) (h : PgAt w w.heap.size p vi vo vc vd) :
    Calls Try.prog 47 #[pgV p vi vo vc vd] w fun e w' => e = .returned (.bool (cB (mayOk p))) ∧ Below w.heap.size w w' := by
  obtain ⟨⟨Ai, ci, rfl, li, mi, si⟩, ⟨Ao, co, rfl, lo, mo, so⟩, hreg, ⟨Ac, cc, rfl, lc, mc, sc⟩, ⟨Ad, cd, rfl, ld, md, sd⟩⟩ := h
  have mc' : cc ≤ 9223372036854775807 := by unfold maxLen at mc; omega
  have md' : cd ≤ 9223372036854775807 := by unfold maxLen at md; omega
  go_enter Try.func47, Try.ntmps47
  go_wp2_with fail
  go_loopw [10] (fun i wr => ∃ k : Nat, k ≤ p.cells.length ∧ i = .int .i64 k ∧ Hid (∀ j, j < k → ∀ c, p.cells[j]? = some c → valueOk c.1 c.2) ∧ Below (w.heap.size + 1) (w.alloc (.cells #[.slice Ai p.ins.length ci, .slice Ao p.outs.length co, .int .i64 p.regs, .slice Ac p.cells.length cc, .slice Ad p.code.length cd] 26)) wr) (fun i _ => p.cells.length - (intOf i).toNat)
  case atStart => exact ⟨0, Nat.zero_le _, rfl, fun j h => absurd h (by omega), by simpa using Below.refl _ _⟩
  case round =>
    obtain ⟨k, hk, rfl, HN, hbox⟩ := hrel
    obtain ⟨⟨q0, q1, q2, q3, q4⟩, hbel, hsz⟩ := pgBox hbox
    by_cases hlt : k < p.cells.length
    · obtain ⟨b, off, c, rfl, hb, hxk, hw1, hw2, c0, c1⟩ := (sc.below hbel).cell hlt
      have HK := Lib.hid hxk
      clear hxk
      go_wp2_with fail
      refine (value_any c.1 c.2 _).mono ?_
      rintro e w' ⟨rfl, rfl⟩
      generalize hV : cB (valueOk c.1 c.2) = V at *
      have HV := Lib.hid hV
      clear hV
      cases V
      · have HF := Lib.hid (cB_false (may_cells HK.out (cB_not.1 HV.out)))
        go_wp2_with fail
        go_ret
        exact ⟨ret_bool HF.out.symm, hbel.alloc (by omega) _⟩
      · have HN' := Lib.hid (upto_succ HN.out (fun y hy => by rw [HK.out] at hy; injection hy with hy; rw [← hy]; exact cB_iff.1 HV.out))
        go_wp2_with fail
        go_roundw
        case rel => exact ⟨k + 1, by omega, by go_num, HN', hbox.alloc (by omega) _⟩
        case measure => simp [intOf]; omega
    · obtain rfl : k = p.cells.length := by omega
      have HC := Lib.hid HN.out
      clear HN hk hlt
      go_wp2_with fail
      go_loopw [24] (fun i wr => ∃ k : Nat, k ≤ p.code.length ∧ i = .int .i64 k ∧ Hid (∀ j, j < k → ∀ x, p.code[j]? = some x → instrOk x) ∧ Below (w.heap.size + 1) (w.alloc (.cells #[.slice Ai p.ins.length ci, .slice Ao p.outs.length co, .int .i64 p.regs, .slice Ac p.cells.length cc, .slice Ad p.code.length cd] 26)) wr) (fun i _ => p.code.length - (intOf i).toNat)
      case atStart => exact ⟨0, Nat.zero_le _, rfl, fun j h => absurd h (by omega), hbox⟩
      case round =>
        clear hbox hbel hsz q0 q1 q2 q3 q4
        obtain ⟨k, hk, rfl, HN, hbox⟩ := hrel
        obtain ⟨⟨q0, q1, q2, q3, q4⟩, hbel, hsz⟩ := pgBox hbox
        by_cases hlt : k < p.code.length
        · obtain ⟨b, off, x, rfl, hb, hxk, hok, c0, c1, c2, c3, c4⟩ := (sd.below hbel).in5 hlt
          have HK := Lib.hid hxk
          clear hxk
          go_wp2_with fail
          refine (codeInstr_any x _).mono ?_
          rintro e w2 ⟨rfl, hb2⟩
          have hbox2 := (hbox.alloc (by omega) (.cells #[.int .i64 x.op, .int .i64 x.a, .int .i64 x.b, .int .i64 x.c, .int .i64 x.k] 30)).trans (hb2.mono (by simp; omega))
          generalize hV : cB (instrOk x) = V at *
          have HV := Lib.hid hV
          clear hV hbox
          cases V
          · have HF := Lib.hid (cB_false (may_code HK.out (cB_not.1 HV.out)))
            go_wp2_with fail
            go_ret
            exact ⟨ret_bool HF.out.symm, (pgBox hbox2).2.1⟩
          · have HN' := Lib.hid (upto_succ HN.out (fun y hy => by rw [HK.out] at hy; injection hy with hy; rw [← hy]; exact cB_iff.1 HV.out))
            go_wp2_with fail
            go_roundw
            case rel => exact ⟨k + 1, by omega, by go_num, HN', hbox2⟩
            case measure => simp [intOf]; omega
        · obtain rfl : k = p.code.length := by omega
          have HM := Lib.hid (may_rest HC.out HN.out)
          clear HC HN
          go_wp2_with fail
          refine (rowRight_any p.ins Ai ci _ _ li mi (si.below hbel)).mono ?_
          rintro e w' ⟨rfl, rfl⟩
          generalize hV : cB (typesOk p.ins) = V at *
          have HV := Lib.hid hV
          clear hV
          cases V
          · have HF := Lib.hid (cB_false (fun h => cB_not.1 HV.out (HM.out.1 h).1))
            go_wp2_with fail
            go_ret
            exact ⟨ret_bool HF.out.symm, hbel⟩
          go_wp2_with fail
          refine (rowRight_any p.outs Ao co _ _ lo mo (so.below hbel)).mono ?_
          rintro e w' ⟨rfl, rfl⟩
          generalize hV2 : cB (typesOk p.outs) = V2 at *
          have HV2 := Lib.hid hV2
          clear hV2
          cases V2
          · have HF := Lib.hid (cB_false (fun h => cB_not.1 HV2.out (HM.out.1 h).2.1))
            go_wp2_with fail
            go_ret
            exact ⟨ret_bool HF.out.symm, hbel⟩
          have HM2 := Lib.hid (cB_congr (show mayOk p ↔ 0 ≤ p.regs ∧ p.regs ≤ 1600 ∧ p.cells.length ≤ 60 ∧ p.code.length ≤ 2048 from ⟨fun h => (HM.out.1 h).2.2, fun h => HM.out.2 ⟨cB_iff.1 HV.out, cB_iff.1 HV2.out, h⟩⟩))
          clear HM HV HV2
          go_wp2_with fail
          all_goals
            go_ret
            refine ⟨ret_bool ?_, hbel⟩
            rw [HM2.out, Bool.eq_iff_iff, cB_iff]
            simp
            try omega
end Go.Proofs.Ytbjaejgechadpaa
